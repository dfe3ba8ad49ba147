-- Written by gprint.py, a program of this session, with the printer of the kit as its library. Lean checks it.
import Derived.Test.YtelkfhlnejlheaaGFnGraphsx0
import Derived.Test.YtelkfhlnejlheaaGFnGraphsx2
import Derived.Test.YtelkfhlnejlheaaGFnGraphsx3
import Derived.Test.YtelkfhlnejlheaaGFnGraphsx7
import Derived.Test.YtelkfhlnejlheaaGFnGraphsx8
namespace Go.Proofs.Ytelkfhlnejlheaa.GFnGraphs
open Go.RowKit Go.Proofs.YtelkfhlnejlheaaW.PrintWords Go.Proofs.YtelkfhlnejlheaaW.PrintLast Go.Proofs.YtelkfhlnejlheaaW.PrintMore
attribute [local go_sem] max2_int min2_int max_two min_two max_three min_three max_four min_four   -- for this text's walks alone
set_option linter.unusedVariables false
set_option linter.unusedSimpArgs false

/-! ### laws_FnGraphs: function 12 -/
mutual
def laws_FnGraphs.j0 : Nat → List Int → Int → Int → List (List Int) → Option (Bool)
 | 0, _, _, _, _ => none
 | k + 1, x0, x4, x458000, x458001 => (spec_DrawHitBy.f k x0).bind fun bt475 => ((impl_HitBy.f k bt475.1 bt475.2.1 bt475.2.2).bind fun t483 => (laws_FnGraphs.l0 k x4 bt475.2.2 t483 0 x458000 x458001 bt475.1 bt475.2.1))
def laws_FnGraphs.l0 : Nat → Int → List Int → List Int → Int → Int → List (List Int) → Int → List (List Int) → Option (Bool)
 | 0, _, _, _, _, _, _, _, _ => none
 | k + 1, x4, x9, x10, x11, x458000, x458001, x483000, x483001 => if x11 < x483000 then ((impl_IsGraph.f k x483000 x483001).bind fun t486 => (laws_FnGraphs.j2 k x4 x9 x10 x11 t486 x458000 x458001 x483000 x483001)) else (laws_FnGraphs.j2 k x4 x9 x10 x11 false x458000 x458001 x483000 x483001)
def laws_FnGraphs.j2 : Nat → Int → List Int → List Int → Int → Bool → Int → List (List Int) → Int → List (List Int) → Option (Bool)
 | 0, _, _, _, _, _, _, _, _, _ => none
 | k + 1, x4, x9, x10, x11, x101, x458000, x458001, x483000, x483001 => if x101 = true then (laws_FnGraphs.l1 k x4 x9 x10 x11 false 0 x458000 x458001 x483000 x483001) else ((laws_ascends.f k x10).bind fun t490 => (if t490 = true then ((impl_AttackersOf.f k x458000 x458001 x4).bind fun t491 => ((laws_ascends.f k t491).bind fun t494 => (if t494 = true then ((impl_VictimsOf.f k x458000 x458001 x4).bind fun t495 => ((laws_ascends.f k t495).bind fun t498 => (some t498))) else (some false)))) else (some false)))
def laws_FnGraphs.l1 : Nat → Int → List Int → List Int → Int → Bool → Int → Int → List (List Int) → Int → List (List Int) → Option (Bool)
 | 0, _, _, _, _, _, _, _, _, _, _ => none
 | k + 1, x4, x9, x10, x11, x12, x13, x458000, x458001, x483000, x483001 => if x13 < (x9.length : Int) then (if x12 = true then (laws_FnGraphs.l1 k x4 x9 x10 x11 true (wrap64 (x13 + 1)) x458000 x458001 x483000 x483001) else (if 0 ≤ x13 then ((impl_DoesAttack.f k x483000 x483001 (rd x9 x13) x11).bind fun t488 => (laws_FnGraphs.l1 k x4 x9 x10 x11 t488 (wrap64 (x13 + 1)) x458000 x458001 x483000 x483001)) else (none))) else ((laws_contains.f k x10 x11).bind fun t489 => (if (x12 != t489) = true then (some false) else (laws_FnGraphs.l0 k x4 x9 x10 (wrap64 (x11 + 1)) x458000 x458001 x483000 x483001)))
end
def laws_FnGraphs.f (k : Nat) (l0 : List Int) : Option (Bool) := (laws_big.f l0).bind fun t450 => (if t450 = true then (some true) else ((spec_DrawAddAttack.f k l0).bind fun bt451 => ((impl_AddAttack.f k bt451.1 bt451.2.1 bt451.2.2.1 bt451.2.2.2).bind fun bt458 => (if bt458.2.2 = true then ((impl_IsGraph.f k bt458.1 bt458.2.1).bind fun t464 => (if t464 = true then (if (bt458.2.1.length : Int) = (wrap64 ((bt451.2.1.length : Int) + 1)) then ((impl_DoesAttack.f k bt458.1 bt458.2.1 bt451.2.2.1 bt451.2.2.2).bind fun t465 => (if t465 = true then ((impl_DoesAttack.f k bt451.1 bt451.2.1 bt451.2.2.1 bt451.2.2.2).bind fun t466 => (if t466 = true then (some false) else ((impl_AttackersOf.f k bt458.1 bt458.2.1 bt451.2.2.2).bind fun t467 => ((laws_contains.f k t467 bt451.2.2.1).bind fun t470 => (if t470 = true then ((impl_VictimsOf.f k bt458.1 bt458.2.1 bt451.2.2.1).bind fun t471 => ((laws_contains.f k t471 bt451.2.2.2).bind fun t474 => (if t474 = true then (laws_FnGraphs.j0 k l0 bt451.2.2.1 bt451.1 bt451.2.1) else (some false)))) else (some false)))))) else (some false))) else (some false)) else (some false))) else (if (bt458.2.1.length : Int) = (bt451.2.1.length : Int) then (if bt458.1 = bt451.1 then (laws_FnGraphs.j0 k l0 bt451.2.2.1 bt451.1 bt451.2.1) else (some false)) else (some false))))))
theorem laws_FnGraphs.mono_l : ∀ k, (∀ y0 y1 y2 y3, LeO (laws_FnGraphs.j0 k y0 y1 y2 y3) (laws_FnGraphs.j0 (k + 1) y0 y1 y2 y3)) ∧ (∀ y0 y1 y2 y3 y4 y5 y6 y7, LeO (laws_FnGraphs.l0 k y0 y1 y2 y3 y4 y5 y6 y7) (laws_FnGraphs.l0 (k + 1) y0 y1 y2 y3 y4 y5 y6 y7)) ∧ (∀ y0 y1 y2 y3 y4 y5 y6 y7 y8, LeO (laws_FnGraphs.j2 k y0 y1 y2 y3 y4 y5 y6 y7 y8) (laws_FnGraphs.j2 (k + 1) y0 y1 y2 y3 y4 y5 y6 y7 y8)) ∧ (∀ y0 y1 y2 y3 y4 y5 y6 y7 y8 y9, LeO (laws_FnGraphs.l1 k y0 y1 y2 y3 y4 y5 y6 y7 y8 y9) (laws_FnGraphs.l1 (k + 1) y0 y1 y2 y3 y4 y5 y6 y7 y8 y9))
 | 0 => ⟨fun _ _ _ _ r h => by simp [laws_FnGraphs.j0] at h, fun _ _ _ _ _ _ _ _ r h => by simp [laws_FnGraphs.l0] at h, fun _ _ _ _ _ _ _ _ _ r h => by simp [laws_FnGraphs.j2] at h, fun _ _ _ _ _ _ _ _ _ _ r h => by simp [laws_FnGraphs.l1] at h⟩
 | k + 1 => by
  obtain ⟨ih0, ih1, ih2, ih3⟩ := laws_FnGraphs.mono_l k
  refine ⟨?_, ?_, ?_, ?_⟩
  ·
   intro y0 y1 y2 y3
   unfold laws_FnGraphs.j0
   repeat' with_reducible first | exact ih0 _ _ _ _ | exact ih1 _ _ _ _ _ _ _ _ | exact ih2 _ _ _ _ _ _ _ _ _ | exact ih3 _ _ _ _ _ _ _ _ _ _ | exact impl_AddAttack.mono _ _ _ _ _ | exact impl_AttackersOf.mono _ _ _ _ | exact impl_DoesAttack.mono _ _ _ _ _ | exact impl_HitBy.mono _ _ _ _ | exact impl_IsGraph.mono _ _ _ | exact impl_VictimsOf.mono _ _ _ _ | exact laws_ascends.mono _ _ | exact laws_contains.mono _ _ _ | exact spec_DrawAddAttack.mono _ _ | exact spec_DrawHitBy.mono _ _ | exact LeO.refl _ | exact LeO.none _ | refine LeO.ite ?_ ?_ | refine LeO.bind ?_ (fun _ => ?_)
  ·
   intro y0 y1 y2 y3 y4 y5 y6 y7
   unfold laws_FnGraphs.l0
   repeat' with_reducible first | exact ih0 _ _ _ _ | exact ih1 _ _ _ _ _ _ _ _ | exact ih2 _ _ _ _ _ _ _ _ _ | exact ih3 _ _ _ _ _ _ _ _ _ _ | exact impl_AddAttack.mono _ _ _ _ _ | exact impl_AttackersOf.mono _ _ _ _ | exact impl_DoesAttack.mono _ _ _ _ _ | exact impl_HitBy.mono _ _ _ _ | exact impl_IsGraph.mono _ _ _ | exact impl_VictimsOf.mono _ _ _ _ | exact laws_ascends.mono _ _ | exact laws_contains.mono _ _ _ | exact spec_DrawAddAttack.mono _ _ | exact spec_DrawHitBy.mono _ _ | exact LeO.refl _ | exact LeO.none _ | refine LeO.ite ?_ ?_ | refine LeO.bind ?_ (fun _ => ?_)
  ·
   intro y0 y1 y2 y3 y4 y5 y6 y7 y8
   unfold laws_FnGraphs.j2
   repeat' with_reducible first | exact ih0 _ _ _ _ | exact ih1 _ _ _ _ _ _ _ _ | exact ih2 _ _ _ _ _ _ _ _ _ | exact ih3 _ _ _ _ _ _ _ _ _ _ | exact impl_AddAttack.mono _ _ _ _ _ | exact impl_AttackersOf.mono _ _ _ _ | exact impl_DoesAttack.mono _ _ _ _ _ | exact impl_HitBy.mono _ _ _ _ | exact impl_IsGraph.mono _ _ _ | exact impl_VictimsOf.mono _ _ _ _ | exact laws_ascends.mono _ _ | exact laws_contains.mono _ _ _ | exact spec_DrawAddAttack.mono _ _ | exact spec_DrawHitBy.mono _ _ | exact LeO.refl _ | exact LeO.none _ | refine LeO.ite ?_ ?_ | refine LeO.bind ?_ (fun _ => ?_)
  ·
   intro y0 y1 y2 y3 y4 y5 y6 y7 y8 y9
   unfold laws_FnGraphs.l1
   repeat' with_reducible first | exact ih0 _ _ _ _ | exact ih1 _ _ _ _ _ _ _ _ | exact ih2 _ _ _ _ _ _ _ _ _ | exact ih3 _ _ _ _ _ _ _ _ _ _ | exact impl_AddAttack.mono _ _ _ _ _ | exact impl_AttackersOf.mono _ _ _ _ | exact impl_DoesAttack.mono _ _ _ _ _ | exact impl_HitBy.mono _ _ _ _ | exact impl_IsGraph.mono _ _ _ | exact impl_VictimsOf.mono _ _ _ _ | exact laws_ascends.mono _ _ | exact laws_contains.mono _ _ _ | exact spec_DrawAddAttack.mono _ _ | exact spec_DrawHitBy.mono _ _ | exact LeO.refl _ | exact LeO.none _ | refine LeO.ite ?_ ?_ | refine LeO.bind ?_ (fun _ => ?_)
theorem laws_FnGraphs.mono : ∀ a0 k, LeO (laws_FnGraphs.f k a0) (laws_FnGraphs.f (k + 1) a0) := by
 intro a0 k
 obtain ⟨ih0, ih1, ih2, ih3⟩ := laws_FnGraphs.mono_l k
 unfold laws_FnGraphs.f
 repeat' with_reducible first | exact ih0 _ _ _ _ | exact ih1 _ _ _ _ _ _ _ _ | exact ih2 _ _ _ _ _ _ _ _ _ | exact ih3 _ _ _ _ _ _ _ _ _ _ | exact impl_AddAttack.mono _ _ _ _ _ | exact impl_AttackersOf.mono _ _ _ _ | exact impl_DoesAttack.mono _ _ _ _ _ | exact impl_HitBy.mono _ _ _ _ | exact impl_IsGraph.mono _ _ _ | exact impl_VictimsOf.mono _ _ _ _ | exact laws_ascends.mono _ _ | exact laws_contains.mono _ _ _ | exact spec_DrawAddAttack.mono _ _ | exact spec_DrawHitBy.mono _ _ | exact LeO.refl _ | exact LeO.none _ | refine LeO.ite ?_ ?_ | refine LeO.bind ?_ (fun _ => ?_)
def laws_FnGraphs.T19 : Bool × List (List Nat × List Nat) := (true, [([], []), ([0], [0]), ([1], [1]), ([1], [1]), ([1], [1]), ([3, 4, 1], [1, 3, 4]), ([5, 1], [1, 5]), ([1], [1]), ([2, 6, 7, 1, 1], [1, 2, 6, 7]), ([1, 8], [1, 8]), ([9, 8, 0, 1, 2, 3, 4, 5, 6, 7, 8, 9], [0, 9])])
def laws_FnGraphs.B19 : List Nat := [0, 1, 3, 3, 3, 27, 59, 3, 255, 511, 1023]
theorem laws_FnGraphs.tab19 : rtab .any (opsOf Try.f12 19) = laws_FnGraphs.T19 := by kernel_rfl
theorem laws_FnGraphs.bits19 : waitsOk laws_FnGraphs.T19.2 laws_FnGraphs.B19 = true := by kernel_rfl
set_option maxHeartbeats 8000000 in
set_option maxRecDepth 100000 in
theorem laws_FnGraphs.calls (k : Nat) (A0 : Option Addr) (c0 : Nat) (l0 : List Int) (r : Bool) (w : World) (hr0 : Kd.C (Kd.int .u8) w A0 l0.length l0) (hc0 : l0.length ≤ c0) (h : laws_FnGraphs.f k l0 = some r) :
  Calls Try.prog 12 #[.slice A0 l0.length c0] w fun e w' => e = .returned (.bool r) ∧ Below w.heap.size w w' := by
 have hu28 := Try.underlying28
 have HR0 := Aside0.mk hr0
 have HC0 := Aside0.mk hc0
 clear hr0 hc0
 have HB := Aside0.mk (Below.refl w.heap.size w)
 have H : ((laws_big.f l0).bind fun t450 => (if t450 = true then (some true) else ((spec_DrawAddAttack.f k l0).bind fun bt451 => ((impl_AddAttack.f k bt451.1 bt451.2.1 bt451.2.2.1 bt451.2.2.2).bind fun bt458 => (if bt458.2.2 = true then ((impl_IsGraph.f k bt458.1 bt458.2.1).bind fun t464 => (if t464 = true then (if (bt458.2.1.length : Int) = (wrap64 ((bt451.2.1.length : Int) + 1)) then ((impl_DoesAttack.f k bt458.1 bt458.2.1 bt451.2.2.1 bt451.2.2.2).bind fun t465 => (if t465 = true then ((impl_DoesAttack.f k bt451.1 bt451.2.1 bt451.2.2.1 bt451.2.2.2).bind fun t466 => (if t466 = true then (some false) else ((impl_AttackersOf.f k bt458.1 bt458.2.1 bt451.2.2.2).bind fun t467 => ((laws_contains.f k t467 bt451.2.2.1).bind fun t470 => (if t470 = true then ((impl_VictimsOf.f k bt458.1 bt458.2.1 bt451.2.2.1).bind fun t471 => ((laws_contains.f k t471 bt451.2.2.2).bind fun t474 => (if t474 = true then (laws_FnGraphs.j0 k l0 bt451.2.2.1 bt451.1 bt451.2.1) else (some false)))) else (some false)))))) else (some false))) else (some false)) else (some false))) else (if (bt458.2.1.length : Int) = (bt451.2.1.length : Int) then (if bt458.1 = bt451.1 then (laws_FnGraphs.j0 k l0 bt451.2.2.1 bt451.1 bt451.2.1) else (some false)) else (some false))))))) = some r := h
 clear h
 replace H := Option.bind_eq_some_iff.mp H
 obtain ⟨t450, A20, H⟩ := H
 have A2 := Aside0.mk A20
 clear A20
 by_cases c3 : t450 = true
 ·
  subst c3
  rw [if_pos rfl] at H
  obtain rfl := Option.some.inj H
  go_enter Try.func12, Try.ntmps12
  go_wp2_with (first | ((with_reducible refine gate_callee (f := 46) rfl ?_); refine goesL_ (some 15) rfl rfl Try.func46 (by kernel_rfl) rfl #[.slice A0 l0.length c0] rfl mA ?_; (with_reducible refine (laws_big.calls _ _ l0 true _ ?side1 ?side2 A2.out).mono ?_); (case side1 => exact mC HR0.out); (case side2 => exact HC0.out); rintro e w' ⟨rfl, ⟨nd, rfl⟩⟩; refine ⟨_, rfl, ?_⟩))
  go_ret
  exact ⟨mE, mB HB.out⟩
 replace c3 := Bool.eq_false_iff.mpr c3
 subst c3
 rw [if_neg (show ¬ (false = true) by decide)] at H
 replace H := Option.bind_eq_some_iff.mp H
 obtain ⟨⟨t451, t452, t455, t456⟩, A40, H⟩ := H
 try dsimp only at H
 have A4 := Aside0.mk A40
 clear A40
 replace H := Option.bind_eq_some_iff.mp H
 obtain ⟨⟨t458, t459, t462⟩, A50, H⟩ := H
 try dsimp only at H
 have A5 := Aside0.mk A50
 clear A50
 have HC6 := Aside0.mk H
 clear H
 go_enter Try.func12, Try.ntmps12
 go_upto_if 29 with (first | ((with_reducible refine gate_callee (f := 46) rfl ?_); refine goesL_ (some 15) rfl rfl Try.func46 (by kernel_rfl) rfl #[.slice A0 l0.length c0] rfl mA ?_; (with_reducible refine (laws_big.calls _ _ l0 false _ ?side1 ?side2 A2.out).mono ?_); (case side1 => exact mC HR0.out); (case side2 => exact HC0.out); rintro e w' ⟨rfl, ⟨nd, rfl⟩⟩; refine ⟨_, rfl, ?_⟩) | ((with_reducible refine gate_callee (f := 47) rfl ?_); refine goesL_ (some 18) rfl rfl Try.func47 (by kernel_rfl) rfl #[.slice A0 l0.length c0] rfl mA ?_; (with_reducible refine (spec_DrawAddAttack.calls k _ _ l0 t451 t452 t455 t456 _ ?side1 ?side2 A4.out).mono ?_); (case side1 => exact mC HR0.out); (case side2 => exact HC0.out); rintro e w7 ⟨v453, rfl, ho0, hb⟩; refine ⟨_, rfl, ?_⟩; have n0_ := Aside0.mk (Kd.S_lower ho0 (below_size (mB HB.out))); have n1_ := Aside0.mk (below_step (mB HB.out) hb); clear HB; have HO454 := n0_; have HB := n1_; clear n0_ n1_; (try clear hb); (try clear ho0)) | ((with_reducible refine gate_dst (N := 3) rfl ?_); refine box_event ?hg (N := 3) ?hd (cs := #[.int .i64 0, .slice none 0 0]) (t := 28) ?hr ?_; (case hd => rfl); (case hg => rfl); (case hr => first | (go_simp; done) | (go_simp; rfl)); intro gb457 hg w8 hbox hb; have n0_ := Aside0.mk (Kd.S_below (mS HO454.out) hb); have n1_ := Aside0.mk (below_step (mB HB.out) hb); have n2_ := Aside0.mk (hbox); have n3_ := Aside0.mk ((by rw [hg]; exact (below_size (mB HB.out)) : w.heap.size ≤ gb457)); have n4_ := Aside0.mk ((by rw [hg]; exact (below_size (mB HB.out)) : w.heap.size ≤ gb457)); clear HO454 HB; have HO454 := n0_; have HB := n1_; have BK457 := n2_; have GW457 := n3_; have GE457 := n4_; clear n0_ n1_ n2_ n3_ n4_; clear hb hbox hg; have hcz9_0 : w8.cell? ⟨gb457, 0, none⟩ = some (.int .i64 0) := (blk_cell BK457.out 0).trans rfl; have hcz9_1 : w8.cell? ⟨gb457, 1, none⟩ = some (.slice none 0 0) := (blk_cell BK457.out 1).trans rfl; have hfz9_0 := blk_frozen BK457.out 0; have hfz9_1 := blk_frozen BK457.out 1; obtain ⟨Ao10, co10, eo10⟩ := Kd.S_slice HO454.out; subst eo10) | ((with_reducible refine gate_callee (f := 48) rfl ?_); refine goesL_ (some 26) rfl rfl Try.func48 (by kernel_rfl) rfl #[.agg #[.int .i64 t451, .slice Ao10 t452.length co10], .int .i64 t455, .int .i64 t456] rfl mA ?_; (with_reducible refine (impl_AddAttack.calls k t451 _ _ t452 t455 t456 t458 t459 t462 _ ?side1 ?side2 A5.out).mono ?_); (case side1 => refine (Kd.S_reads' (e := 25) (base := w.heap.size) (ok := fun k_ => True) (n := t452.length) (c := co10) ?_).2.2; exact (mS ((Kd.S_mono (Kd.S_far (p := ⟨gb457, 1, none⟩) (Kd.S_far (p := ⟨gb457, 0, none⟩) (Kd.S_types HO454.out BK457.out (by decide)) (fun _ hk => hk.2) (.int .i64 t451)) (fun _ hk => hk.2) (.slice Ao10 t452.length co10)) (fun _ h_ => h_.1))))); (case side2 => exact (Kd.S_reads' HO454.out).2.1); rintro e w11 ⟨v460, rfl, ho0, hb⟩; refine ⟨_, rfl, ?_⟩; have n0_ := Aside0.mk (Kd.S_elder' (mS ((Kd.S_mono (Kd.S_far (p := ⟨gb457, 1, none⟩) (Kd.S_far (p := ⟨gb457, 0, none⟩) (Kd.S_types HO454.out BK457.out (by decide)) (fun _ hk => hk.2) (.int .i64 t451)) (fun _ hk => hk.2) (.slice Ao10 t452.length co10)) (fun _ h_ => h_.1)))) (Kd.S_base ho0) hb); have n1_ := Aside0.mk (Kd.S_lower (Kd.S_new' ho0 (Kd.S_lt (mS ((Kd.S_mono (Kd.S_far (p := ⟨gb457, 1, none⟩) (Kd.S_far (p := ⟨gb457, 0, none⟩) (Kd.S_types HO454.out BK457.out (by decide)) (fun _ hk => hk.2) (.int .i64 t451)) (fun _ hk => hk.2) (.slice Ao10 t452.length co10)) (fun _ h_ => h_.1)))))) (below_size mG)); have n2_ := Aside0.mk (blk_below (g := gb457) (o := .cells #[.int .i64 t451, .slice Ao10 t452.length co10] 28 (0, 0)) (by refine pK ?_; refine blk_put (cs := #[.int .i64 t451, .slice none 0 0]) ?_ 1 _ rfl; refine pK ?_; refine blk_put (cs := #[.int .i64 0, .slice none 0 0]) ?_ 0 _ rfl; refine pK ?_; exact BK457.out) hb); have n3_ := Aside0.mk (below_step mG hb); clear HO454 BK457 HB; have HO454 := n0_; have HO461 := n1_; have BK457 := n2_; have HB := n3_; clear n0_ n1_ n2_ n3_; (try clear hb); (try clear ho0)) | ((with_reducible refine gate_dst (N := 6) rfl ?_); refine box_event ?hg (N := 6) ?hd (cs := #[.int .i64 0, .slice none 0 0]) (t := 28) ?hr ?_; (case hd => rfl); (case hg => rfl); (case hr => first | (go_simp; done) | (go_simp; rfl)); intro gb463 hg w12 hbox hb; have n0_ := Aside0.mk (Kd.S_below (mS HO454.out) hb); have n1_ := Aside0.mk (Kd.S_below (mS HO461.out) hb); have n2_ := Aside0.mk (blk_below (g := gb457) (o := .cells #[.int .i64 t451, .slice Ao10 t452.length co10] 28 (0, 0)) ((mK (BK457.out))) hb); have n3_ := Aside0.mk (below_step mG hb); have n4_ := Aside0.mk (hbox); have n5_ := Aside0.mk ((by rw [hg]; exact (below_size mG) : w.heap.size ≤ gb463)); have n6_ := Aside0.mk ((by rw [hg]; exact (below_size mG) : w.heap.size ≤ gb463)); have n7_ := Aside0.mk ((by rw [hg]; exact Nat.ne_of_lt (blk_lt (g := gb457) (o := .cells #[.int .i64 t451, .slice Ao10 t452.length co10] 28 (0, 0)) ((mK (BK457.out)))) : gb457 ≠ gb463)); have n8_ := Aside0.mk ((by rw [hg]; exact Nat.ne_of_gt (blk_lt (g := gb457) (o := .cells #[.int .i64 t451, .slice Ao10 t452.length co10] 28 (0, 0)) ((mK (BK457.out)))) : gb463 ≠ gb457)); clear HO454 HO461 BK457 HB; have HO454 := n0_; have HO461 := n1_; have BK457 := n2_; have HB := n3_; have BK463 := n4_; have GW463 := n5_; have GE463 := n6_; have NB457_463 := n7_; have NB463_457 := n8_; clear n0_ n1_ n2_ n3_ n4_ n5_ n6_ n7_ n8_; clear hb hbox hg; have hnb13 := NB463_457.out; have hnc13 := NB457_463.out; have hcz14_0 : w12.cell? ⟨gb463, 0, none⟩ = some (.int .i64 0) := (blk_cell BK463.out 0).trans rfl; have hcz14_1 : w12.cell? ⟨gb463, 1, none⟩ = some (.slice none 0 0) := (blk_cell BK463.out 1).trans rfl; have hfz14_0 := blk_frozen BK463.out 0; have hfz14_1 := blk_frozen BK463.out 1; obtain ⟨Ao15, co15, eo15⟩ := Kd.S_slice HO461.out; subst eo15))
 (try simp only [Act.put, List.setIfInBounds_toArray, List.set_cons_zero, List.set_cons_succ])
 go_cut [] (fun wc => ∃ (kq : Nat), Aside0 (laws_FnGraphs.j0 kq l0 t455 t451 t452 = some r) ∧ Aside0 (kq ≤ k) ∧ Aside0 (Kd.S (Kd.slice 3 (Kd.int .i64)) 25 wc w.heap.size (fun k_ => some k_ ≠ ((.slice Ao15 t459.length co15) : Value).ownBlock) (.slice Ao10 t452.length co10) t452) ∧ Aside0 (Kd.S (Kd.slice 3 (Kd.int .i64)) 25 wc w.heap.size (fun k_ => some k_ ≠ ((.slice Ao10 t452.length co10) : Value).ownBlock) (.slice Ao15 t459.length co15) t459) ∧ Aside0 (wc.heap[gb457]? = some (.cells #[.int .i64 t451, (.slice Ao10 t452.length co10)] 28 (0, 0))) ∧ Aside0 (wc.heap[gb463]? = some (.cells #[.int .i64 t458, (.slice Ao15 t459.length co15)] 28 (0, 0))) ∧ Aside0 (Below w.heap.size w wc))
 case first =>
  have H := HC6.out
  clear HC6
  by_cases c16 : t462 = true
  rotate_left
  ·
   replace c16 := Bool.eq_false_iff.mpr c16
   subst c16
   rw [if_neg (show ¬ (false = true) by decide)] at H
   by_cases c91 : (t459.length : Int) = (t452.length : Int)
   rotate_left
   ·
    rw [if_neg c91] at H
    have c91b0 : ((t459.length : Int) == (t452.length : Int)) = false := beq_eq_false_iff_ne.mpr c91
    have c91b1 : ((t459.length : Int) != (t452.length : Int)) = true := bne_iff_ne.mpr c91
    have c91b2 : (t459.length == t452.length) = false := by first | simpa using c91 | (simp at c91 ⊢; omega)
    obtain rfl := Option.some.inj H
    have hnb99 := NB463_457.out
    have hnc99 := NB457_463.out
    have hcz100_0 : w12.cell? ⟨gb463, 0, none⟩ = some (.int .i64 0) := (blk_cell BK463.out 0).trans rfl
    have hcz100_1 : w12.cell? ⟨gb463, 1, none⟩ = some (.slice none 0 0) := (blk_cell BK463.out 1).trans rfl
    have hfz100_0 := blk_frozen BK463.out 0
    have hfz100_1 := blk_frozen BK463.out 1
    have hcz101_0 : w12.cell? ⟨gb457, 0, none⟩ = some (.int .i64 t451) := (blk_cell BK457.out 0).trans rfl
    have hcz101_1 : w12.cell? ⟨gb457, 1, none⟩ = some (.slice Ao10 t452.length co10) := (blk_cell BK457.out 1).trans rfl
    have hfz101_0 := blk_frozen BK457.out 0
    have hfz101_1 := blk_frozen BK457.out 1
    go_wp2
    go_ret
    exact ⟨mE, mG⟩
   rw [if_pos c91] at H
   have c91b0 : ((t459.length : Int) == (t452.length : Int)) = true := beq_iff_eq.mpr c91
   have c91b1 : ((t459.length : Int) != (t452.length : Int)) = false := bne_eq_false_iff_eq.mpr c91
   have c91b2 : (t459.length == t452.length) = true := by first | simpa using c91 | (simp at c91 ⊢; omega)
   clear c91
   by_cases c92 : t458 = t451
   rotate_left
   ·
    rw [if_neg c92] at H
    have c92b0 : (t458 == t451) = false := beq_eq_false_iff_ne.mpr c92
    have c92b1 : (t458 != t451) = true := bne_iff_ne.mpr c92
    obtain rfl := Option.some.inj H
    have hnb96 := NB463_457.out
    have hnc96 := NB457_463.out
    have hcz97_0 : w12.cell? ⟨gb463, 0, none⟩ = some (.int .i64 0) := (blk_cell BK463.out 0).trans rfl
    have hcz97_1 : w12.cell? ⟨gb463, 1, none⟩ = some (.slice none 0 0) := (blk_cell BK463.out 1).trans rfl
    have hfz97_0 := blk_frozen BK463.out 0
    have hfz97_1 := blk_frozen BK463.out 1
    have hcz98_0 : w12.cell? ⟨gb457, 0, none⟩ = some (.int .i64 t451) := (blk_cell BK457.out 0).trans rfl
    have hcz98_1 : w12.cell? ⟨gb457, 1, none⟩ = some (.slice Ao10 t452.length co10) := (blk_cell BK457.out 1).trans rfl
    have hfz98_0 := blk_frozen BK457.out 0
    have hfz98_1 := blk_frozen BK457.out 1
    go_wp2
    go_ret
    exact ⟨mE, mG⟩
   rw [if_pos c92] at H
   have c92b0 : (t458 == t451) = true := beq_iff_eq.mpr c92
   have c92b1 : (t458 != t451) = false := bne_eq_false_iff_eq.mpr c92
   clear c92
   have H' := Aside0.mk H
   clear H
   have hnb93 := NB463_457.out
   have hnc93 := NB457_463.out
   have hcz94_0 : w12.cell? ⟨gb463, 0, none⟩ = some (.int .i64 0) := (blk_cell BK463.out 0).trans rfl
   have hcz94_1 : w12.cell? ⟨gb463, 1, none⟩ = some (.slice none 0 0) := (blk_cell BK463.out 1).trans rfl
   have hfz94_0 := blk_frozen BK463.out 0
   have hfz94_1 := blk_frozen BK463.out 1
   have hcz95_0 : w12.cell? ⟨gb457, 0, none⟩ = some (.int .i64 t451) := (blk_cell BK457.out 0).trans rfl
   have hcz95_1 : w12.cell? ⟨gb457, 1, none⟩ = some (.slice Ao10 t452.length co10) := (blk_cell BK457.out 1).trans rfl
   have hfz95_0 := blk_frozen BK457.out 0
   have hfz95_1 := blk_frozen BK457.out 1
   go_wp2
   go_meet
   case rel => exact ⟨_, H', ⟨by first | omega | exact Nat.le_refl _⟩, ⟨by (with_reducible repeat (first | apply Kd.S_alloc | apply Kd.S_drewN | apply Kd.S_drew)); exact Kd.S_mono (Kd.S_far (p := ⟨gb463, 1, none⟩) (Kd.S_far (p := ⟨gb463, 0, none⟩) (Kd.S_types HO454.out BK463.out (by decide)) (fun _ hk => hk.2) (.int .i64 t458)) (fun _ hk => hk.2) (.slice Ao15 t459.length co15)) (fun _ hk => hk.1.2)⟩, ⟨by (with_reducible repeat (first | apply Kd.S_alloc | apply Kd.S_drewN | apply Kd.S_drew)); exact Kd.S_mono (Kd.S_far (p := ⟨gb463, 1, none⟩) (Kd.S_far (p := ⟨gb463, 0, none⟩) (Kd.S_types HO461.out BK463.out (by decide)) (fun _ hk => hk.2) (.int .i64 t458)) (fun _ hk => hk.2) (.slice Ao15 t459.length co15)) (fun _ hk => hk.1.2)⟩, ⟨by refine pK ?_; refine blk_far ?_ NB457_463.out _; refine pK ?_; refine blk_far ?_ NB457_463.out _; refine pK ?_; exact BK457.out⟩, ⟨by refine pK ?_; refine blk_put (cs := #[.int .i64 t458, .slice none 0 0]) ?_ 1 _ rfl; refine pK ?_; refine blk_put (cs := #[.int .i64 0, .slice none 0 0]) ?_ 0 _ rfl; refine pK ?_; exact BK463.out⟩, ⟨mG⟩⟩
  subst c16
  rw [if_pos rfl] at H
  replace H := Option.bind_eq_some_iff.mp H
  obtain ⟨t464, A170, H⟩ := H
  have A17 := Aside0.mk A170
  clear A170
  by_cases c18 : t464 = true
  rotate_left
  ·
   replace c18 := Bool.eq_false_iff.mpr c18
   subst c18
   rw [if_neg (show ¬ (false = true) by decide)] at H
   obtain rfl := Option.some.inj H
   have hnb88 := NB463_457.out
   have hnc88 := NB457_463.out
   have hcz89_0 : w12.cell? ⟨gb463, 0, none⟩ = some (.int .i64 0) := (blk_cell BK463.out 0).trans rfl
   have hcz89_1 : w12.cell? ⟨gb463, 1, none⟩ = some (.slice none 0 0) := (blk_cell BK463.out 1).trans rfl
   have hfz89_0 := blk_frozen BK463.out 0
   have hfz89_1 := blk_frozen BK463.out 1
   go_wp2_with (first | ((with_reducible refine gate_callee (f := 49) rfl ?_); refine goesL_ (some 31) rfl rfl Try.func49 (by kernel_rfl) rfl #[.agg #[.int .i64 t458, .slice Ao15 t459.length co15]] rfl mA ?_; (with_reducible refine (impl_IsGraph.calls k t458 _ _ t459 false _ ?side1 ?side2 A17.out).mono ?_); (case side1 => refine (Kd.S_reads' (e := 25) (base := w.heap.size) (ok := fun k_ => (True ∧ some k_ ≠ (.slice Ao10 t452.length co10 : Value).ownBlock)) (n := t459.length) (c := co15) ?_).2.2; exact (mS ((Kd.S_mono (Kd.S_far (p := ⟨gb463, 1, none⟩) (Kd.S_far (p := ⟨gb463, 0, none⟩) (Kd.S_types HO461.out BK463.out (by decide)) (fun _ hk => hk.2) (.int .i64 t458)) (fun _ hk => hk.2) (.slice Ao15 t459.length co15)) (fun _ h_ => h_.1))))); (case side2 => exact (Kd.S_reads' HO461.out).2.1); rintro e w90 ⟨rfl, hb⟩; refine ⟨_, rfl, ?_⟩; have n0_ := Aside0.mk (Kd.S_below (mS ((Kd.S_mono (Kd.S_far (p := ⟨gb463, 1, none⟩) (Kd.S_far (p := ⟨gb463, 0, none⟩) (Kd.S_types HO454.out BK463.out (by decide)) (fun _ hk => hk.2) (.int .i64 t458)) (fun _ hk => hk.2) (.slice Ao15 t459.length co15)) (fun _ h_ => h_.1)))) hb); have n1_ := Aside0.mk (Kd.S_below (mS ((Kd.S_mono (Kd.S_far (p := ⟨gb463, 1, none⟩) (Kd.S_far (p := ⟨gb463, 0, none⟩) (Kd.S_types HO461.out BK463.out (by decide)) (fun _ hk => hk.2) (.int .i64 t458)) (fun _ hk => hk.2) (.slice Ao15 t459.length co15)) (fun _ h_ => h_.1)))) hb); have n2_ := Aside0.mk (blk_below (g := gb457) (o := .cells #[.int .i64 t451, .slice Ao10 t452.length co10] 28 (0, 0)) (by refine pK ?_; refine blk_far ?_ NB457_463.out _; refine pK ?_; refine blk_far ?_ NB457_463.out _; refine pK ?_; exact BK457.out) hb); have n3_ := Aside0.mk (blk_below (g := gb463) (o := .cells #[.int .i64 t458, .slice Ao15 t459.length co15] 28 (0, 0)) (by refine pK ?_; refine blk_put (cs := #[.int .i64 t458, .slice none 0 0]) ?_ 1 _ rfl; refine pK ?_; refine blk_put (cs := #[.int .i64 0, .slice none 0 0]) ?_ 0 _ rfl; refine pK ?_; exact BK463.out) hb); have n4_ := Aside0.mk (below_step mG hb); clear HO454 HO461 BK457 BK463 HB; have HO454 := n0_; have HO461 := n1_; have BK457 := n2_; have BK463 := n3_; have HB := n4_; clear n0_ n1_ n2_ n3_ n4_; (try clear hb)))
   go_ret
   exact ⟨mE, mG⟩
  subst c18
  rw [if_pos rfl] at H
  by_cases c19 : (t459.length : Int) = (wrap64 ((t452.length : Int) + 1))
  rotate_left
  ·
   rw [if_neg c19] at H
   have c19b0 : ((t459.length : Int) == (wrap64 ((t452.length : Int) + 1))) = false := beq_eq_false_iff_ne.mpr c19
   have c19b1 : ((t459.length : Int) != (wrap64 ((t452.length : Int) + 1))) = true := bne_iff_ne.mpr c19
   (first | rw [c19b0] | (simp only [i64_w, i32_w]; rw [c19b0]) | skip)
   obtain rfl := Option.some.inj H
   have hnb83 := NB463_457.out
   have hnc83 := NB457_463.out
   have hcz84_0 : w12.cell? ⟨gb463, 0, none⟩ = some (.int .i64 0) := (blk_cell BK463.out 0).trans rfl
   have hcz84_1 : w12.cell? ⟨gb463, 1, none⟩ = some (.slice none 0 0) := (blk_cell BK463.out 1).trans rfl
   have hfz84_0 := blk_frozen BK463.out 0
   have hfz84_1 := blk_frozen BK463.out 1
   go_wp2_with (first | ((with_reducible refine gate_callee (f := 49) rfl ?_); refine goesL_ (some 31) rfl rfl Try.func49 (by kernel_rfl) rfl #[.agg #[.int .i64 t458, .slice Ao15 t459.length co15]] rfl mA ?_; (with_reducible refine (impl_IsGraph.calls k t458 _ _ t459 true _ ?side1 ?side2 A17.out).mono ?_); (case side1 => refine (Kd.S_reads' (e := 25) (base := w.heap.size) (ok := fun k_ => (True ∧ some k_ ≠ (.slice Ao10 t452.length co10 : Value).ownBlock)) (n := t459.length) (c := co15) ?_).2.2; exact (mS ((Kd.S_mono (Kd.S_far (p := ⟨gb463, 1, none⟩) (Kd.S_far (p := ⟨gb463, 0, none⟩) (Kd.S_types HO461.out BK463.out (by decide)) (fun _ hk => hk.2) (.int .i64 t458)) (fun _ hk => hk.2) (.slice Ao15 t459.length co15)) (fun _ h_ => h_.1))))); (case side2 => exact (Kd.S_reads' HO461.out).2.1); rintro e w85 ⟨rfl, hb⟩; refine ⟨_, rfl, ?_⟩; have n0_ := Aside0.mk (Kd.S_below (mS ((Kd.S_mono (Kd.S_far (p := ⟨gb463, 1, none⟩) (Kd.S_far (p := ⟨gb463, 0, none⟩) (Kd.S_types HO454.out BK463.out (by decide)) (fun _ hk => hk.2) (.int .i64 t458)) (fun _ hk => hk.2) (.slice Ao15 t459.length co15)) (fun _ h_ => h_.1)))) hb); have n1_ := Aside0.mk (Kd.S_below (mS ((Kd.S_mono (Kd.S_far (p := ⟨gb463, 1, none⟩) (Kd.S_far (p := ⟨gb463, 0, none⟩) (Kd.S_types HO461.out BK463.out (by decide)) (fun _ hk => hk.2) (.int .i64 t458)) (fun _ hk => hk.2) (.slice Ao15 t459.length co15)) (fun _ h_ => h_.1)))) hb); have n2_ := Aside0.mk (blk_below (g := gb457) (o := .cells #[.int .i64 t451, .slice Ao10 t452.length co10] 28 (0, 0)) (by refine pK ?_; refine blk_far ?_ NB457_463.out _; refine pK ?_; refine blk_far ?_ NB457_463.out _; refine pK ?_; exact BK457.out) hb); have n3_ := Aside0.mk (blk_below (g := gb463) (o := .cells #[.int .i64 t458, .slice Ao15 t459.length co15] 28 (0, 0)) (by refine pK ?_; refine blk_put (cs := #[.int .i64 t458, .slice none 0 0]) ?_ 1 _ rfl; refine pK ?_; refine blk_put (cs := #[.int .i64 0, .slice none 0 0]) ?_ 0 _ rfl; refine pK ?_; exact BK463.out) hb); have n4_ := Aside0.mk (below_step mG hb); clear HO454 HO461 BK457 BK463 HB; have HO454 := n0_; have HO461 := n1_; have BK457 := n2_; have BK463 := n3_; have HB := n4_; clear n0_ n1_ n2_ n3_ n4_; (try clear hb); have hcz86_0 : w85.cell? ⟨gb463, 0, none⟩ = some (.int .i64 t458) := (blk_cell BK463.out 0).trans rfl; have hcz86_1 : w85.cell? ⟨gb463, 1, none⟩ = some (.slice Ao15 t459.length co15) := (blk_cell BK463.out 1).trans rfl; have hfz86_0 := blk_frozen BK463.out 0; have hfz86_1 := blk_frozen BK463.out 1; have hcz87_0 : w85.cell? ⟨gb457, 0, none⟩ = some (.int .i64 t451) := (blk_cell BK457.out 0).trans rfl; have hcz87_1 : w85.cell? ⟨gb457, 1, none⟩ = some (.slice Ao10 t452.length co10) := (blk_cell BK457.out 1).trans rfl; have hfz87_0 := blk_frozen BK457.out 0; have hfz87_1 := blk_frozen BK457.out 1))
   go_ret
   exact ⟨mE, mG⟩
  rw [if_pos c19] at H
  have c19b0 : ((t459.length : Int) == (wrap64 ((t452.length : Int) + 1))) = true := beq_iff_eq.mpr c19
  have c19b1 : ((t459.length : Int) != (wrap64 ((t452.length : Int) + 1))) = false := bne_eq_false_iff_eq.mpr c19
  clear c19
  (first | rw [c19b0] | (simp only [i64_w, i32_w]; rw [c19b0]) | skip)
  replace H := Option.bind_eq_some_iff.mp H
  obtain ⟨t465, A200, H⟩ := H
  have A20 := Aside0.mk A200
  clear A200
  by_cases c21 : t465 = true
  rotate_left
  ·
   replace c21 := Bool.eq_false_iff.mpr c21
   subst c21
   rw [if_neg (show ¬ (false = true) by decide)] at H
   obtain rfl := Option.some.inj H
   have hnb77 := NB463_457.out
   have hnc77 := NB457_463.out
   have hcz78_0 : w12.cell? ⟨gb463, 0, none⟩ = some (.int .i64 0) := (blk_cell BK463.out 0).trans rfl
   have hcz78_1 : w12.cell? ⟨gb463, 1, none⟩ = some (.slice none 0 0) := (blk_cell BK463.out 1).trans rfl
   have hfz78_0 := blk_frozen BK463.out 0
   have hfz78_1 := blk_frozen BK463.out 1
   go_wp2_with (first | ((with_reducible refine gate_callee (f := 49) rfl ?_); refine goesL_ (some 31) rfl rfl Try.func49 (by kernel_rfl) rfl #[.agg #[.int .i64 t458, .slice Ao15 t459.length co15]] rfl mA ?_; (with_reducible refine (impl_IsGraph.calls k t458 _ _ t459 true _ ?side1 ?side2 A17.out).mono ?_); (case side1 => refine (Kd.S_reads' (e := 25) (base := w.heap.size) (ok := fun k_ => (True ∧ some k_ ≠ (.slice Ao10 t452.length co10 : Value).ownBlock)) (n := t459.length) (c := co15) ?_).2.2; exact (mS ((Kd.S_mono (Kd.S_far (p := ⟨gb463, 1, none⟩) (Kd.S_far (p := ⟨gb463, 0, none⟩) (Kd.S_types HO461.out BK463.out (by decide)) (fun _ hk => hk.2) (.int .i64 t458)) (fun _ hk => hk.2) (.slice Ao15 t459.length co15)) (fun _ h_ => h_.1))))); (case side2 => exact (Kd.S_reads' HO461.out).2.1); rintro e w79 ⟨rfl, hb⟩; refine ⟨_, rfl, ?_⟩; have n0_ := Aside0.mk (Kd.S_below (mS ((Kd.S_mono (Kd.S_far (p := ⟨gb463, 1, none⟩) (Kd.S_far (p := ⟨gb463, 0, none⟩) (Kd.S_types HO454.out BK463.out (by decide)) (fun _ hk => hk.2) (.int .i64 t458)) (fun _ hk => hk.2) (.slice Ao15 t459.length co15)) (fun _ h_ => h_.1)))) hb); have n1_ := Aside0.mk (Kd.S_below (mS ((Kd.S_mono (Kd.S_far (p := ⟨gb463, 1, none⟩) (Kd.S_far (p := ⟨gb463, 0, none⟩) (Kd.S_types HO461.out BK463.out (by decide)) (fun _ hk => hk.2) (.int .i64 t458)) (fun _ hk => hk.2) (.slice Ao15 t459.length co15)) (fun _ h_ => h_.1)))) hb); have n2_ := Aside0.mk (blk_below (g := gb457) (o := .cells #[.int .i64 t451, .slice Ao10 t452.length co10] 28 (0, 0)) (by refine pK ?_; refine blk_far ?_ NB457_463.out _; refine pK ?_; refine blk_far ?_ NB457_463.out _; refine pK ?_; exact BK457.out) hb); have n3_ := Aside0.mk (blk_below (g := gb463) (o := .cells #[.int .i64 t458, .slice Ao15 t459.length co15] 28 (0, 0)) (by refine pK ?_; refine blk_put (cs := #[.int .i64 t458, .slice none 0 0]) ?_ 1 _ rfl; refine pK ?_; refine blk_put (cs := #[.int .i64 0, .slice none 0 0]) ?_ 0 _ rfl; refine pK ?_; exact BK463.out) hb); have n4_ := Aside0.mk (below_step mG hb); clear HO454 HO461 BK457 BK463 HB; have HO454 := n0_; have HO461 := n1_; have BK457 := n2_; have BK463 := n3_; have HB := n4_; clear n0_ n1_ n2_ n3_ n4_; (try clear hb); have hcz80_0 : w79.cell? ⟨gb463, 0, none⟩ = some (.int .i64 t458) := (blk_cell BK463.out 0).trans rfl; have hcz80_1 : w79.cell? ⟨gb463, 1, none⟩ = some (.slice Ao15 t459.length co15) := (blk_cell BK463.out 1).trans rfl; have hfz80_0 := blk_frozen BK463.out 0; have hfz80_1 := blk_frozen BK463.out 1; have hcz81_0 : w79.cell? ⟨gb457, 0, none⟩ = some (.int .i64 t451) := (blk_cell BK457.out 0).trans rfl; have hcz81_1 : w79.cell? ⟨gb457, 1, none⟩ = some (.slice Ao10 t452.length co10) := (blk_cell BK457.out 1).trans rfl; have hfz81_0 := blk_frozen BK457.out 0; have hfz81_1 := blk_frozen BK457.out 1) | (go_at_call 50; (with_reducible refine (impl_DoesAttack.calls k t458 _ _ t459 t455 t456 false _ ?side1 ?side2 A20.out).mono ?_); (case side1 => exact mC (Kd.S_reads' HO461.out).2.2); (case side2 => exact (Kd.S_reads' HO461.out).2.1); rintro e w82 ⟨rfl, hb⟩; have n0_ := Aside0.mk (Kd.S_below (mS HO454.out) hb); have n1_ := Aside0.mk (Kd.S_below (mS HO461.out) hb); have n2_ := Aside0.mk (blk_below (g := gb457) (o := .cells #[.int .i64 t451, .slice Ao10 t452.length co10] 28 (0, 0)) ((mK (BK457.out))) hb); have n3_ := Aside0.mk (blk_below (g := gb463) (o := .cells #[.int .i64 t458, .slice Ao15 t459.length co15] 28 (0, 0)) ((mK (BK463.out))) hb); have n4_ := Aside0.mk (below_step mG hb); clear HO454 HO461 BK457 BK463 HB; have HO454 := n0_; have HO461 := n1_; have BK457 := n2_; have BK463 := n3_; have HB := n4_; clear n0_ n1_ n2_ n3_ n4_; (try clear hb)))
   go_ret
   exact ⟨mE, mG⟩
  subst c21
  rw [if_pos rfl] at H
  replace H := Option.bind_eq_some_iff.mp H
  obtain ⟨t466, A220, H⟩ := H
  have A22 := Aside0.mk A220
  clear A220
  by_cases c23 : t466 = true
  ·
   subst c23
   rw [if_pos rfl] at H
   obtain rfl := Option.some.inj H
   have hnb24 := NB463_457.out
   have hnc24 := NB457_463.out
   have hcz25_0 : w12.cell? ⟨gb463, 0, none⟩ = some (.int .i64 0) := (blk_cell BK463.out 0).trans rfl
   have hcz25_1 : w12.cell? ⟨gb463, 1, none⟩ = some (.slice none 0 0) := (blk_cell BK463.out 1).trans rfl
   have hfz25_0 := blk_frozen BK463.out 0
   have hfz25_1 := blk_frozen BK463.out 1
   go_wp2_with (first | ((with_reducible refine gate_callee (f := 49) rfl ?_); refine goesL_ (some 31) rfl rfl Try.func49 (by kernel_rfl) rfl #[.agg #[.int .i64 t458, .slice Ao15 t459.length co15]] rfl mA ?_; (with_reducible refine (impl_IsGraph.calls k t458 _ _ t459 true _ ?side1 ?side2 A17.out).mono ?_); (case side1 => refine (Kd.S_reads' (e := 25) (base := w.heap.size) (ok := fun k_ => (True ∧ some k_ ≠ (.slice Ao10 t452.length co10 : Value).ownBlock)) (n := t459.length) (c := co15) ?_).2.2; exact (mS ((Kd.S_mono (Kd.S_far (p := ⟨gb463, 1, none⟩) (Kd.S_far (p := ⟨gb463, 0, none⟩) (Kd.S_types HO461.out BK463.out (by decide)) (fun _ hk => hk.2) (.int .i64 t458)) (fun _ hk => hk.2) (.slice Ao15 t459.length co15)) (fun _ h_ => h_.1))))); (case side2 => exact (Kd.S_reads' HO461.out).2.1); rintro e w26 ⟨rfl, hb⟩; refine ⟨_, rfl, ?_⟩; have n0_ := Aside0.mk (Kd.S_below (mS ((Kd.S_mono (Kd.S_far (p := ⟨gb463, 1, none⟩) (Kd.S_far (p := ⟨gb463, 0, none⟩) (Kd.S_types HO454.out BK463.out (by decide)) (fun _ hk => hk.2) (.int .i64 t458)) (fun _ hk => hk.2) (.slice Ao15 t459.length co15)) (fun _ h_ => h_.1)))) hb); have n1_ := Aside0.mk (Kd.S_below (mS ((Kd.S_mono (Kd.S_far (p := ⟨gb463, 1, none⟩) (Kd.S_far (p := ⟨gb463, 0, none⟩) (Kd.S_types HO461.out BK463.out (by decide)) (fun _ hk => hk.2) (.int .i64 t458)) (fun _ hk => hk.2) (.slice Ao15 t459.length co15)) (fun _ h_ => h_.1)))) hb); have n2_ := Aside0.mk (blk_below (g := gb457) (o := .cells #[.int .i64 t451, .slice Ao10 t452.length co10] 28 (0, 0)) (by refine pK ?_; refine blk_far ?_ NB457_463.out _; refine pK ?_; refine blk_far ?_ NB457_463.out _; refine pK ?_; exact BK457.out) hb); have n3_ := Aside0.mk (blk_below (g := gb463) (o := .cells #[.int .i64 t458, .slice Ao15 t459.length co15] 28 (0, 0)) (by refine pK ?_; refine blk_put (cs := #[.int .i64 t458, .slice none 0 0]) ?_ 1 _ rfl; refine pK ?_; refine blk_put (cs := #[.int .i64 0, .slice none 0 0]) ?_ 0 _ rfl; refine pK ?_; exact BK463.out) hb); have n4_ := Aside0.mk (below_step mG hb); clear HO454 HO461 BK457 BK463 HB; have HO454 := n0_; have HO461 := n1_; have BK457 := n2_; have BK463 := n3_; have HB := n4_; clear n0_ n1_ n2_ n3_ n4_; (try clear hb); have hcz27_0 : w26.cell? ⟨gb463, 0, none⟩ = some (.int .i64 t458) := (blk_cell BK463.out 0).trans rfl; have hcz27_1 : w26.cell? ⟨gb463, 1, none⟩ = some (.slice Ao15 t459.length co15) := (blk_cell BK463.out 1).trans rfl; have hfz27_0 := blk_frozen BK463.out 0; have hfz27_1 := blk_frozen BK463.out 1; have hcz28_0 : w26.cell? ⟨gb457, 0, none⟩ = some (.int .i64 t451) := (blk_cell BK457.out 0).trans rfl; have hcz28_1 : w26.cell? ⟨gb457, 1, none⟩ = some (.slice Ao10 t452.length co10) := (blk_cell BK457.out 1).trans rfl; have hfz28_0 := blk_frozen BK457.out 0; have hfz28_1 := blk_frozen BK457.out 1) | (go_at_call 50; (with_reducible refine (impl_DoesAttack.calls k t458 _ _ t459 t455 t456 true _ ?side1 ?side2 A20.out).mono ?_); (case side1 => exact mC (Kd.S_reads' HO461.out).2.2); (case side2 => exact (Kd.S_reads' HO461.out).2.1); rintro e w29 ⟨rfl, hb⟩; have n0_ := Aside0.mk (Kd.S_below (mS HO454.out) hb); have n1_ := Aside0.mk (Kd.S_below (mS HO461.out) hb); have n2_ := Aside0.mk (blk_below (g := gb457) (o := .cells #[.int .i64 t451, .slice Ao10 t452.length co10] 28 (0, 0)) ((mK (BK457.out))) hb); have n3_ := Aside0.mk (blk_below (g := gb463) (o := .cells #[.int .i64 t458, .slice Ao15 t459.length co15] 28 (0, 0)) ((mK (BK463.out))) hb); have n4_ := Aside0.mk (below_step mG hb); clear HO454 HO461 BK457 BK463 HB; have HO454 := n0_; have HO461 := n1_; have BK457 := n2_; have BK463 := n3_; have HB := n4_; clear n0_ n1_ n2_ n3_ n4_; (try clear hb); have hcz30_0 : w29.cell? ⟨gb457, 0, none⟩ = some (.int .i64 t451) := (blk_cell BK457.out 0).trans rfl; have hcz30_1 : w29.cell? ⟨gb457, 1, none⟩ = some (.slice Ao10 t452.length co10) := (blk_cell BK457.out 1).trans rfl; have hfz30_0 := blk_frozen BK457.out 0; have hfz30_1 := blk_frozen BK457.out 1) | (go_at_call 50; (with_reducible refine (impl_DoesAttack.calls k t451 _ _ t452 t455 t456 true _ ?side1 ?side2 A22.out).mono ?_); (case side1 => exact mC (Kd.S_reads' HO454.out).2.2); (case side2 => exact (Kd.S_reads' HO454.out).2.1); rintro e w31 ⟨rfl, hb⟩; have n0_ := Aside0.mk (Kd.S_below (mS HO454.out) hb); have n1_ := Aside0.mk (Kd.S_below (mS HO461.out) hb); have n2_ := Aside0.mk (blk_below (g := gb457) (o := .cells #[.int .i64 t451, .slice Ao10 t452.length co10] 28 (0, 0)) ((mK (BK457.out))) hb); have n3_ := Aside0.mk (blk_below (g := gb463) (o := .cells #[.int .i64 t458, .slice Ao15 t459.length co15] 28 (0, 0)) ((mK (BK463.out))) hb); have n4_ := Aside0.mk (below_step mG hb); clear HO454 HO461 BK457 BK463 HB; have HO454 := n0_; have HO461 := n1_; have BK457 := n2_; have BK463 := n3_; have HB := n4_; clear n0_ n1_ n2_ n3_ n4_; (try clear hb)))
   go_ret
   exact ⟨mE, mG⟩
  replace c23 := Bool.eq_false_iff.mpr c23
  subst c23
  rw [if_neg (show ¬ (false = true) by decide)] at H
  replace H := Option.bind_eq_some_iff.mp H
  obtain ⟨t467, A320, H⟩ := H
  have A32 := Aside0.mk A320
  clear A320
  replace H := Option.bind_eq_some_iff.mp H
  obtain ⟨t470, A330, H⟩ := H
  have A33 := Aside0.mk A330
  clear A330
  by_cases c34 : t470 = true
  rotate_left
  ·
   replace c34 := Bool.eq_false_iff.mpr c34
   subst c34
   rw [if_neg (show ¬ (false = true) by decide)] at H
   obtain rfl := Option.some.inj H
   have hnb66 := NB463_457.out
   have hnc66 := NB457_463.out
   have hcz67_0 : w12.cell? ⟨gb463, 0, none⟩ = some (.int .i64 0) := (blk_cell BK463.out 0).trans rfl
   have hcz67_1 : w12.cell? ⟨gb463, 1, none⟩ = some (.slice none 0 0) := (blk_cell BK463.out 1).trans rfl
   have hfz67_0 := blk_frozen BK463.out 0
   have hfz67_1 := blk_frozen BK463.out 1
   go_wp2_with (first | ((with_reducible refine gate_callee (f := 49) rfl ?_); refine goesL_ (some 31) rfl rfl Try.func49 (by kernel_rfl) rfl #[.agg #[.int .i64 t458, .slice Ao15 t459.length co15]] rfl mA ?_; (with_reducible refine (impl_IsGraph.calls k t458 _ _ t459 true _ ?side1 ?side2 A17.out).mono ?_); (case side1 => refine (Kd.S_reads' (e := 25) (base := w.heap.size) (ok := fun k_ => (True ∧ some k_ ≠ (.slice Ao10 t452.length co10 : Value).ownBlock)) (n := t459.length) (c := co15) ?_).2.2; exact (mS ((Kd.S_mono (Kd.S_far (p := ⟨gb463, 1, none⟩) (Kd.S_far (p := ⟨gb463, 0, none⟩) (Kd.S_types HO461.out BK463.out (by decide)) (fun _ hk => hk.2) (.int .i64 t458)) (fun _ hk => hk.2) (.slice Ao15 t459.length co15)) (fun _ h_ => h_.1))))); (case side2 => exact (Kd.S_reads' HO461.out).2.1); rintro e w68 ⟨rfl, hb⟩; refine ⟨_, rfl, ?_⟩; have n0_ := Aside0.mk (Kd.S_below (mS ((Kd.S_mono (Kd.S_far (p := ⟨gb463, 1, none⟩) (Kd.S_far (p := ⟨gb463, 0, none⟩) (Kd.S_types HO454.out BK463.out (by decide)) (fun _ hk => hk.2) (.int .i64 t458)) (fun _ hk => hk.2) (.slice Ao15 t459.length co15)) (fun _ h_ => h_.1)))) hb); have n1_ := Aside0.mk (Kd.S_below (mS ((Kd.S_mono (Kd.S_far (p := ⟨gb463, 1, none⟩) (Kd.S_far (p := ⟨gb463, 0, none⟩) (Kd.S_types HO461.out BK463.out (by decide)) (fun _ hk => hk.2) (.int .i64 t458)) (fun _ hk => hk.2) (.slice Ao15 t459.length co15)) (fun _ h_ => h_.1)))) hb); have n2_ := Aside0.mk (blk_below (g := gb457) (o := .cells #[.int .i64 t451, .slice Ao10 t452.length co10] 28 (0, 0)) (by refine pK ?_; refine blk_far ?_ NB457_463.out _; refine pK ?_; refine blk_far ?_ NB457_463.out _; refine pK ?_; exact BK457.out) hb); have n3_ := Aside0.mk (blk_below (g := gb463) (o := .cells #[.int .i64 t458, .slice Ao15 t459.length co15] 28 (0, 0)) (by refine pK ?_; refine blk_put (cs := #[.int .i64 t458, .slice none 0 0]) ?_ 1 _ rfl; refine pK ?_; refine blk_put (cs := #[.int .i64 0, .slice none 0 0]) ?_ 0 _ rfl; refine pK ?_; exact BK463.out) hb); have n4_ := Aside0.mk (below_step mG hb); clear HO454 HO461 BK457 BK463 HB; have HO454 := n0_; have HO461 := n1_; have BK457 := n2_; have BK463 := n3_; have HB := n4_; clear n0_ n1_ n2_ n3_ n4_; (try clear hb); have hcz69_0 : w68.cell? ⟨gb463, 0, none⟩ = some (.int .i64 t458) := (blk_cell BK463.out 0).trans rfl; have hcz69_1 : w68.cell? ⟨gb463, 1, none⟩ = some (.slice Ao15 t459.length co15) := (blk_cell BK463.out 1).trans rfl; have hfz69_0 := blk_frozen BK463.out 0; have hfz69_1 := blk_frozen BK463.out 1; have hcz70_0 : w68.cell? ⟨gb457, 0, none⟩ = some (.int .i64 t451) := (blk_cell BK457.out 0).trans rfl; have hcz70_1 : w68.cell? ⟨gb457, 1, none⟩ = some (.slice Ao10 t452.length co10) := (blk_cell BK457.out 1).trans rfl; have hfz70_0 := blk_frozen BK457.out 0; have hfz70_1 := blk_frozen BK457.out 1) | (go_at_call 50; (with_reducible refine (impl_DoesAttack.calls k t458 _ _ t459 t455 t456 true _ ?side1 ?side2 A20.out).mono ?_); (case side1 => exact mC (Kd.S_reads' HO461.out).2.2); (case side2 => exact (Kd.S_reads' HO461.out).2.1); rintro e w71 ⟨rfl, hb⟩; have n0_ := Aside0.mk (Kd.S_below (mS HO454.out) hb); have n1_ := Aside0.mk (Kd.S_below (mS HO461.out) hb); have n2_ := Aside0.mk (blk_below (g := gb457) (o := .cells #[.int .i64 t451, .slice Ao10 t452.length co10] 28 (0, 0)) ((mK (BK457.out))) hb); have n3_ := Aside0.mk (blk_below (g := gb463) (o := .cells #[.int .i64 t458, .slice Ao15 t459.length co15] 28 (0, 0)) ((mK (BK463.out))) hb); have n4_ := Aside0.mk (below_step mG hb); clear HO454 HO461 BK457 BK463 HB; have HO454 := n0_; have HO461 := n1_; have BK457 := n2_; have BK463 := n3_; have HB := n4_; clear n0_ n1_ n2_ n3_ n4_; (try clear hb); have hcz72_0 : w71.cell? ⟨gb457, 0, none⟩ = some (.int .i64 t451) := (blk_cell BK457.out 0).trans rfl; have hcz72_1 : w71.cell? ⟨gb457, 1, none⟩ = some (.slice Ao10 t452.length co10) := (blk_cell BK457.out 1).trans rfl; have hfz72_0 := blk_frozen BK457.out 0; have hfz72_1 := blk_frozen BK457.out 1) | (go_at_call 50; (with_reducible refine (impl_DoesAttack.calls k t451 _ _ t452 t455 t456 false _ ?side1 ?side2 A22.out).mono ?_); (case side1 => exact mC (Kd.S_reads' HO454.out).2.2); (case side2 => exact (Kd.S_reads' HO454.out).2.1); rintro e w73 ⟨rfl, hb⟩; have n0_ := Aside0.mk (Kd.S_below (mS HO454.out) hb); have n1_ := Aside0.mk (Kd.S_below (mS HO461.out) hb); have n2_ := Aside0.mk (blk_below (g := gb457) (o := .cells #[.int .i64 t451, .slice Ao10 t452.length co10] 28 (0, 0)) ((mK (BK457.out))) hb); have n3_ := Aside0.mk (blk_below (g := gb463) (o := .cells #[.int .i64 t458, .slice Ao15 t459.length co15] 28 (0, 0)) ((mK (BK463.out))) hb); have n4_ := Aside0.mk (below_step mG hb); clear HO454 HO461 BK457 BK463 HB; have HO454 := n0_; have HO461 := n1_; have BK457 := n2_; have BK463 := n3_; have HB := n4_; clear n0_ n1_ n2_ n3_ n4_; (try clear hb); have hcz74_0 : w73.cell? ⟨gb463, 0, none⟩ = some (.int .i64 t458) := (blk_cell BK463.out 0).trans rfl; have hcz74_1 : w73.cell? ⟨gb463, 1, none⟩ = some (.slice Ao15 t459.length co15) := (blk_cell BK463.out 1).trans rfl; have hfz74_0 := blk_frozen BK463.out 0; have hfz74_1 := blk_frozen BK463.out 1) | (go_at_call 52; (with_reducible refine (impl_AttackersOf.calls k t458 _ _ t459 t456 t467 _ ?side1 ?side2 A32.out).mono ?_); (case side1 => exact mC (Kd.S_reads' HO461.out).2.2); (case side2 => exact (Kd.S_reads' HO461.out).2.1); rintro e w75 ⟨v468, rfl, ho0, hb⟩; have n0_ := Aside0.mk (Kd.S_elder' (mS HO454.out) (Kd.R_base ho0) hb); have n1_ := Aside0.mk (Kd.S_elder' (mS HO461.out) (Kd.R_base ho0) hb); have n2_ := Aside0.mk (Kd.R_lower ho0 (below_size mG)); have n3_ := Aside0.mk (blk_below (g := gb457) (o := .cells #[.int .i64 t451, .slice Ao10 t452.length co10] 28 (0, 0)) ((mK (BK457.out))) hb); have n4_ := Aside0.mk (blk_below (g := gb463) (o := .cells #[.int .i64 t458, .slice Ao15 t459.length co15] 28 (0, 0)) ((mK (BK463.out))) hb); have n5_ := Aside0.mk (below_step mG hb); clear HO454 HO461 BK457 BK463 HB; have HO454 := n0_; have HO461 := n1_; have HO469 := n2_; have BK457 := n3_; have BK463 := n4_; have HB := n5_; clear n0_ n1_ n2_ n3_ n4_ n5_; (try clear hb); (try clear ho0); obtain ⟨Ao76, co76, eo76⟩ := Kd.R_slice HO469.out; subst eo76) | (go_at_call 51; (with_reducible refine (laws_contains.calls k _ _ t467 t455 false _ ?side1 ?side2 A33.out).mono ?_); (case side1 => exact mC (Kd.R_reads' HO469.out).2.2); (case side2 => exact (Kd.R_reads' HO469.out).2.1); rintro e w' ⟨rfl, ⟨nd, rfl⟩⟩))
   go_ret
   exact ⟨mE, mG⟩
  subst c34
  rw [if_pos rfl] at H
  replace H := Option.bind_eq_some_iff.mp H
  obtain ⟨t471, A350, H⟩ := H
  have A35 := Aside0.mk A350
  clear A350
  replace H := Option.bind_eq_some_iff.mp H
  obtain ⟨t474, A360, H⟩ := H
  have A36 := Aside0.mk A360
  clear A360
  by_cases c37 : t474 = true
  rotate_left
  ·
   replace c37 := Bool.eq_false_iff.mpr c37
   subst c37
   rw [if_neg (show ¬ (false = true) by decide)] at H
   obtain rfl := Option.some.inj H
   have hnb52 := NB463_457.out
   have hnc52 := NB457_463.out
   have hcz53_0 : w12.cell? ⟨gb463, 0, none⟩ = some (.int .i64 0) := (blk_cell BK463.out 0).trans rfl
   have hcz53_1 : w12.cell? ⟨gb463, 1, none⟩ = some (.slice none 0 0) := (blk_cell BK463.out 1).trans rfl
   have hfz53_0 := blk_frozen BK463.out 0
   have hfz53_1 := blk_frozen BK463.out 1
   go_wp2_with (first | ((with_reducible refine gate_callee (f := 49) rfl ?_); refine goesL_ (some 31) rfl rfl Try.func49 (by kernel_rfl) rfl #[.agg #[.int .i64 t458, .slice Ao15 t459.length co15]] rfl mA ?_; (with_reducible refine (impl_IsGraph.calls k t458 _ _ t459 true _ ?side1 ?side2 A17.out).mono ?_); (case side1 => refine (Kd.S_reads' (e := 25) (base := w.heap.size) (ok := fun k_ => (True ∧ some k_ ≠ (.slice Ao10 t452.length co10 : Value).ownBlock)) (n := t459.length) (c := co15) ?_).2.2; exact (mS ((Kd.S_mono (Kd.S_far (p := ⟨gb463, 1, none⟩) (Kd.S_far (p := ⟨gb463, 0, none⟩) (Kd.S_types HO461.out BK463.out (by decide)) (fun _ hk => hk.2) (.int .i64 t458)) (fun _ hk => hk.2) (.slice Ao15 t459.length co15)) (fun _ h_ => h_.1))))); (case side2 => exact (Kd.S_reads' HO461.out).2.1); rintro e w54 ⟨rfl, hb⟩; refine ⟨_, rfl, ?_⟩; have n0_ := Aside0.mk (Kd.S_below (mS ((Kd.S_mono (Kd.S_far (p := ⟨gb463, 1, none⟩) (Kd.S_far (p := ⟨gb463, 0, none⟩) (Kd.S_types HO454.out BK463.out (by decide)) (fun _ hk => hk.2) (.int .i64 t458)) (fun _ hk => hk.2) (.slice Ao15 t459.length co15)) (fun _ h_ => h_.1)))) hb); have n1_ := Aside0.mk (Kd.S_below (mS ((Kd.S_mono (Kd.S_far (p := ⟨gb463, 1, none⟩) (Kd.S_far (p := ⟨gb463, 0, none⟩) (Kd.S_types HO461.out BK463.out (by decide)) (fun _ hk => hk.2) (.int .i64 t458)) (fun _ hk => hk.2) (.slice Ao15 t459.length co15)) (fun _ h_ => h_.1)))) hb); have n2_ := Aside0.mk (blk_below (g := gb457) (o := .cells #[.int .i64 t451, .slice Ao10 t452.length co10] 28 (0, 0)) (by refine pK ?_; refine blk_far ?_ NB457_463.out _; refine pK ?_; refine blk_far ?_ NB457_463.out _; refine pK ?_; exact BK457.out) hb); have n3_ := Aside0.mk (blk_below (g := gb463) (o := .cells #[.int .i64 t458, .slice Ao15 t459.length co15] 28 (0, 0)) (by refine pK ?_; refine blk_put (cs := #[.int .i64 t458, .slice none 0 0]) ?_ 1 _ rfl; refine pK ?_; refine blk_put (cs := #[.int .i64 0, .slice none 0 0]) ?_ 0 _ rfl; refine pK ?_; exact BK463.out) hb); have n4_ := Aside0.mk (below_step mG hb); clear HO454 HO461 BK457 BK463 HB; have HO454 := n0_; have HO461 := n1_; have BK457 := n2_; have BK463 := n3_; have HB := n4_; clear n0_ n1_ n2_ n3_ n4_; (try clear hb); have hcz55_0 : w54.cell? ⟨gb463, 0, none⟩ = some (.int .i64 t458) := (blk_cell BK463.out 0).trans rfl; have hcz55_1 : w54.cell? ⟨gb463, 1, none⟩ = some (.slice Ao15 t459.length co15) := (blk_cell BK463.out 1).trans rfl; have hfz55_0 := blk_frozen BK463.out 0; have hfz55_1 := blk_frozen BK463.out 1; have hcz56_0 : w54.cell? ⟨gb457, 0, none⟩ = some (.int .i64 t451) := (blk_cell BK457.out 0).trans rfl; have hcz56_1 : w54.cell? ⟨gb457, 1, none⟩ = some (.slice Ao10 t452.length co10) := (blk_cell BK457.out 1).trans rfl; have hfz56_0 := blk_frozen BK457.out 0; have hfz56_1 := blk_frozen BK457.out 1) | (go_at_call 50; (with_reducible refine (impl_DoesAttack.calls k t458 _ _ t459 t455 t456 true _ ?side1 ?side2 A20.out).mono ?_); (case side1 => exact mC (Kd.S_reads' HO461.out).2.2); (case side2 => exact (Kd.S_reads' HO461.out).2.1); rintro e w57 ⟨rfl, hb⟩; have n0_ := Aside0.mk (Kd.S_below (mS HO454.out) hb); have n1_ := Aside0.mk (Kd.S_below (mS HO461.out) hb); have n2_ := Aside0.mk (blk_below (g := gb457) (o := .cells #[.int .i64 t451, .slice Ao10 t452.length co10] 28 (0, 0)) ((mK (BK457.out))) hb); have n3_ := Aside0.mk (blk_below (g := gb463) (o := .cells #[.int .i64 t458, .slice Ao15 t459.length co15] 28 (0, 0)) ((mK (BK463.out))) hb); have n4_ := Aside0.mk (below_step mG hb); clear HO454 HO461 BK457 BK463 HB; have HO454 := n0_; have HO461 := n1_; have BK457 := n2_; have BK463 := n3_; have HB := n4_; clear n0_ n1_ n2_ n3_ n4_; (try clear hb); have hcz58_0 : w57.cell? ⟨gb457, 0, none⟩ = some (.int .i64 t451) := (blk_cell BK457.out 0).trans rfl; have hcz58_1 : w57.cell? ⟨gb457, 1, none⟩ = some (.slice Ao10 t452.length co10) := (blk_cell BK457.out 1).trans rfl; have hfz58_0 := blk_frozen BK457.out 0; have hfz58_1 := blk_frozen BK457.out 1) | (go_at_call 50; (with_reducible refine (impl_DoesAttack.calls k t451 _ _ t452 t455 t456 false _ ?side1 ?side2 A22.out).mono ?_); (case side1 => exact mC (Kd.S_reads' HO454.out).2.2); (case side2 => exact (Kd.S_reads' HO454.out).2.1); rintro e w59 ⟨rfl, hb⟩; have n0_ := Aside0.mk (Kd.S_below (mS HO454.out) hb); have n1_ := Aside0.mk (Kd.S_below (mS HO461.out) hb); have n2_ := Aside0.mk (blk_below (g := gb457) (o := .cells #[.int .i64 t451, .slice Ao10 t452.length co10] 28 (0, 0)) ((mK (BK457.out))) hb); have n3_ := Aside0.mk (blk_below (g := gb463) (o := .cells #[.int .i64 t458, .slice Ao15 t459.length co15] 28 (0, 0)) ((mK (BK463.out))) hb); have n4_ := Aside0.mk (below_step mG hb); clear HO454 HO461 BK457 BK463 HB; have HO454 := n0_; have HO461 := n1_; have BK457 := n2_; have BK463 := n3_; have HB := n4_; clear n0_ n1_ n2_ n3_ n4_; (try clear hb); have hcz60_0 : w59.cell? ⟨gb463, 0, none⟩ = some (.int .i64 t458) := (blk_cell BK463.out 0).trans rfl; have hcz60_1 : w59.cell? ⟨gb463, 1, none⟩ = some (.slice Ao15 t459.length co15) := (blk_cell BK463.out 1).trans rfl; have hfz60_0 := blk_frozen BK463.out 0; have hfz60_1 := blk_frozen BK463.out 1) | (go_at_call 52; (with_reducible refine (impl_AttackersOf.calls k t458 _ _ t459 t456 t467 _ ?side1 ?side2 A32.out).mono ?_); (case side1 => exact mC (Kd.S_reads' HO461.out).2.2); (case side2 => exact (Kd.S_reads' HO461.out).2.1); rintro e w61 ⟨v468, rfl, ho0, hb⟩; have n0_ := Aside0.mk (Kd.S_elder' (mS HO454.out) (Kd.R_base ho0) hb); have n1_ := Aside0.mk (Kd.S_elder' (mS HO461.out) (Kd.R_base ho0) hb); have n2_ := Aside0.mk (Kd.R_lower ho0 (below_size mG)); have n3_ := Aside0.mk (blk_below (g := gb457) (o := .cells #[.int .i64 t451, .slice Ao10 t452.length co10] 28 (0, 0)) ((mK (BK457.out))) hb); have n4_ := Aside0.mk (blk_below (g := gb463) (o := .cells #[.int .i64 t458, .slice Ao15 t459.length co15] 28 (0, 0)) ((mK (BK463.out))) hb); have n5_ := Aside0.mk (below_step mG hb); clear HO454 HO461 BK457 BK463 HB; have HO454 := n0_; have HO461 := n1_; have HO469 := n2_; have BK457 := n3_; have BK463 := n4_; have HB := n5_; clear n0_ n1_ n2_ n3_ n4_ n5_; (try clear hb); (try clear ho0); obtain ⟨Ao62, co62, eo62⟩ := Kd.R_slice HO469.out; subst eo62) | (go_at_call 51; (with_reducible refine (laws_contains.calls k _ _ t467 t455 true _ ?side1 ?side2 A33.out).mono ?_); (case side1 => exact mC (Kd.R_reads' HO469.out).2.2); (case side2 => exact (Kd.R_reads' HO469.out).2.1); rintro e w' ⟨rfl, ⟨nd, rfl⟩⟩; have hcz63_0 : w61.cell? ⟨gb463, 0, none⟩ = some (.int .i64 t458) := (blk_cell BK463.out 0).trans rfl; have hcz63_1 : w61.cell? ⟨gb463, 1, none⟩ = some (.slice Ao15 t459.length co15) := (blk_cell BK463.out 1).trans rfl; have hfz63_0 := blk_frozen BK463.out 0; have hfz63_1 := blk_frozen BK463.out 1) | (go_at_call 53; (with_reducible refine (impl_VictimsOf.calls k t458 _ _ t459 t455 t471 _ ?side1 ?side2 A35.out).mono ?_); (case side1 => exact mC (Kd.S_reads' HO461.out).2.2); (case side2 => exact (Kd.S_reads' HO461.out).2.1); rintro e w64 ⟨v472, rfl, ho0, hb⟩; have n0_ := Aside0.mk (Kd.S_elder' (mS HO454.out) (Kd.R_base ho0) hb); have n1_ := Aside0.mk (Kd.S_elder' (mS HO461.out) (Kd.R_base ho0) hb); have n2_ := Aside0.mk (Kd.R_elder' (mR HO469.out) (Kd.R_base ho0) hb); have n3_ := Aside0.mk (Kd.R_lower (Kd.R_new' ho0 (Kd.R_lt (mR HO469.out))) (below_size mG)); have n4_ := Aside0.mk (blk_below (g := gb457) (o := .cells #[.int .i64 t451, .slice Ao10 t452.length co10] 28 (0, 0)) ((mK (BK457.out))) hb); have n5_ := Aside0.mk (blk_below (g := gb463) (o := .cells #[.int .i64 t458, .slice Ao15 t459.length co15] 28 (0, 0)) ((mK (BK463.out))) hb); have n6_ := Aside0.mk (below_step mG hb); clear HO454 HO461 HO469 BK457 BK463 HB; have HO454 := n0_; have HO461 := n1_; have HO469 := n2_; have HO473 := n3_; have BK457 := n4_; have BK463 := n5_; have HB := n6_; clear n0_ n1_ n2_ n3_ n4_ n5_ n6_; (try clear hb); (try clear ho0); obtain ⟨Ao65, co65, eo65⟩ := Kd.R_slice HO473.out; subst eo65) | (go_at_call 51; (with_reducible refine (laws_contains.calls k _ _ t471 t456 false _ ?side1 ?side2 A36.out).mono ?_); (case side1 => exact mC (Kd.R_reads' HO473.out).2.2); (case side2 => exact (Kd.R_reads' HO473.out).2.1); rintro e w' ⟨rfl, ⟨nd, rfl⟩⟩))
   go_ret
   exact ⟨mE, mG⟩
  subst c37
  rw [if_pos rfl] at H
  have H' := Aside0.mk H
  clear H
  have hnb38 := NB463_457.out
  have hnc38 := NB457_463.out
  have hcz39_0 : w12.cell? ⟨gb463, 0, none⟩ = some (.int .i64 0) := (blk_cell BK463.out 0).trans rfl
  have hcz39_1 : w12.cell? ⟨gb463, 1, none⟩ = some (.slice none 0 0) := (blk_cell BK463.out 1).trans rfl
  have hfz39_0 := blk_frozen BK463.out 0
  have hfz39_1 := blk_frozen BK463.out 1
  go_wp2_with (first | ((with_reducible refine gate_callee (f := 49) rfl ?_); refine goesL_ (some 31) rfl rfl Try.func49 (by kernel_rfl) rfl #[.agg #[.int .i64 t458, .slice Ao15 t459.length co15]] rfl mA ?_; (with_reducible refine (impl_IsGraph.calls k t458 _ _ t459 true _ ?side1 ?side2 A17.out).mono ?_); (case side1 => refine (Kd.S_reads' (e := 25) (base := w.heap.size) (ok := fun k_ => (True ∧ some k_ ≠ (.slice Ao10 t452.length co10 : Value).ownBlock)) (n := t459.length) (c := co15) ?_).2.2; exact (mS ((Kd.S_mono (Kd.S_far (p := ⟨gb463, 1, none⟩) (Kd.S_far (p := ⟨gb463, 0, none⟩) (Kd.S_types HO461.out BK463.out (by decide)) (fun _ hk => hk.2) (.int .i64 t458)) (fun _ hk => hk.2) (.slice Ao15 t459.length co15)) (fun _ h_ => h_.1))))); (case side2 => exact (Kd.S_reads' HO461.out).2.1); rintro e w40 ⟨rfl, hb⟩; refine ⟨_, rfl, ?_⟩; have n0_ := Aside0.mk (Kd.S_below (mS ((Kd.S_mono (Kd.S_far (p := ⟨gb463, 1, none⟩) (Kd.S_far (p := ⟨gb463, 0, none⟩) (Kd.S_types HO454.out BK463.out (by decide)) (fun _ hk => hk.2) (.int .i64 t458)) (fun _ hk => hk.2) (.slice Ao15 t459.length co15)) (fun _ h_ => h_.1)))) hb); have n1_ := Aside0.mk (Kd.S_below (mS ((Kd.S_mono (Kd.S_far (p := ⟨gb463, 1, none⟩) (Kd.S_far (p := ⟨gb463, 0, none⟩) (Kd.S_types HO461.out BK463.out (by decide)) (fun _ hk => hk.2) (.int .i64 t458)) (fun _ hk => hk.2) (.slice Ao15 t459.length co15)) (fun _ h_ => h_.1)))) hb); have n2_ := Aside0.mk (blk_below (g := gb457) (o := .cells #[.int .i64 t451, .slice Ao10 t452.length co10] 28 (0, 0)) (by refine pK ?_; refine blk_far ?_ NB457_463.out _; refine pK ?_; refine blk_far ?_ NB457_463.out _; refine pK ?_; exact BK457.out) hb); have n3_ := Aside0.mk (blk_below (g := gb463) (o := .cells #[.int .i64 t458, .slice Ao15 t459.length co15] 28 (0, 0)) (by refine pK ?_; refine blk_put (cs := #[.int .i64 t458, .slice none 0 0]) ?_ 1 _ rfl; refine pK ?_; refine blk_put (cs := #[.int .i64 0, .slice none 0 0]) ?_ 0 _ rfl; refine pK ?_; exact BK463.out) hb); have n4_ := Aside0.mk (below_step mG hb); clear HO454 HO461 BK457 BK463 HB; have HO454 := n0_; have HO461 := n1_; have BK457 := n2_; have BK463 := n3_; have HB := n4_; clear n0_ n1_ n2_ n3_ n4_; (try clear hb); have hcz41_0 : w40.cell? ⟨gb463, 0, none⟩ = some (.int .i64 t458) := (blk_cell BK463.out 0).trans rfl; have hcz41_1 : w40.cell? ⟨gb463, 1, none⟩ = some (.slice Ao15 t459.length co15) := (blk_cell BK463.out 1).trans rfl; have hfz41_0 := blk_frozen BK463.out 0; have hfz41_1 := blk_frozen BK463.out 1; have hcz42_0 : w40.cell? ⟨gb457, 0, none⟩ = some (.int .i64 t451) := (blk_cell BK457.out 0).trans rfl; have hcz42_1 : w40.cell? ⟨gb457, 1, none⟩ = some (.slice Ao10 t452.length co10) := (blk_cell BK457.out 1).trans rfl; have hfz42_0 := blk_frozen BK457.out 0; have hfz42_1 := blk_frozen BK457.out 1) | (go_at_call 50; (with_reducible refine (impl_DoesAttack.calls k t458 _ _ t459 t455 t456 true _ ?side1 ?side2 A20.out).mono ?_); (case side1 => exact mC (Kd.S_reads' HO461.out).2.2); (case side2 => exact (Kd.S_reads' HO461.out).2.1); rintro e w43 ⟨rfl, hb⟩; have n0_ := Aside0.mk (Kd.S_below (mS HO454.out) hb); have n1_ := Aside0.mk (Kd.S_below (mS HO461.out) hb); have n2_ := Aside0.mk (blk_below (g := gb457) (o := .cells #[.int .i64 t451, .slice Ao10 t452.length co10] 28 (0, 0)) ((mK (BK457.out))) hb); have n3_ := Aside0.mk (blk_below (g := gb463) (o := .cells #[.int .i64 t458, .slice Ao15 t459.length co15] 28 (0, 0)) ((mK (BK463.out))) hb); have n4_ := Aside0.mk (below_step mG hb); clear HO454 HO461 BK457 BK463 HB; have HO454 := n0_; have HO461 := n1_; have BK457 := n2_; have BK463 := n3_; have HB := n4_; clear n0_ n1_ n2_ n3_ n4_; (try clear hb); have hcz44_0 : w43.cell? ⟨gb457, 0, none⟩ = some (.int .i64 t451) := (blk_cell BK457.out 0).trans rfl; have hcz44_1 : w43.cell? ⟨gb457, 1, none⟩ = some (.slice Ao10 t452.length co10) := (blk_cell BK457.out 1).trans rfl; have hfz44_0 := blk_frozen BK457.out 0; have hfz44_1 := blk_frozen BK457.out 1) | (go_at_call 50; (with_reducible refine (impl_DoesAttack.calls k t451 _ _ t452 t455 t456 false _ ?side1 ?side2 A22.out).mono ?_); (case side1 => exact mC (Kd.S_reads' HO454.out).2.2); (case side2 => exact (Kd.S_reads' HO454.out).2.1); rintro e w45 ⟨rfl, hb⟩; have n0_ := Aside0.mk (Kd.S_below (mS HO454.out) hb); have n1_ := Aside0.mk (Kd.S_below (mS HO461.out) hb); have n2_ := Aside0.mk (blk_below (g := gb457) (o := .cells #[.int .i64 t451, .slice Ao10 t452.length co10] 28 (0, 0)) ((mK (BK457.out))) hb); have n3_ := Aside0.mk (blk_below (g := gb463) (o := .cells #[.int .i64 t458, .slice Ao15 t459.length co15] 28 (0, 0)) ((mK (BK463.out))) hb); have n4_ := Aside0.mk (below_step mG hb); clear HO454 HO461 BK457 BK463 HB; have HO454 := n0_; have HO461 := n1_; have BK457 := n2_; have BK463 := n3_; have HB := n4_; clear n0_ n1_ n2_ n3_ n4_; (try clear hb); have hcz46_0 : w45.cell? ⟨gb463, 0, none⟩ = some (.int .i64 t458) := (blk_cell BK463.out 0).trans rfl; have hcz46_1 : w45.cell? ⟨gb463, 1, none⟩ = some (.slice Ao15 t459.length co15) := (blk_cell BK463.out 1).trans rfl; have hfz46_0 := blk_frozen BK463.out 0; have hfz46_1 := blk_frozen BK463.out 1) | (go_at_call 52; (with_reducible refine (impl_AttackersOf.calls k t458 _ _ t459 t456 t467 _ ?side1 ?side2 A32.out).mono ?_); (case side1 => exact mC (Kd.S_reads' HO461.out).2.2); (case side2 => exact (Kd.S_reads' HO461.out).2.1); rintro e w47 ⟨v468, rfl, ho0, hb⟩; have n0_ := Aside0.mk (Kd.S_elder' (mS HO454.out) (Kd.R_base ho0) hb); have n1_ := Aside0.mk (Kd.S_elder' (mS HO461.out) (Kd.R_base ho0) hb); have n2_ := Aside0.mk (Kd.R_lower ho0 (below_size mG)); have n3_ := Aside0.mk (blk_below (g := gb457) (o := .cells #[.int .i64 t451, .slice Ao10 t452.length co10] 28 (0, 0)) ((mK (BK457.out))) hb); have n4_ := Aside0.mk (blk_below (g := gb463) (o := .cells #[.int .i64 t458, .slice Ao15 t459.length co15] 28 (0, 0)) ((mK (BK463.out))) hb); have n5_ := Aside0.mk (below_step mG hb); clear HO454 HO461 BK457 BK463 HB; have HO454 := n0_; have HO461 := n1_; have HO469 := n2_; have BK457 := n3_; have BK463 := n4_; have HB := n5_; clear n0_ n1_ n2_ n3_ n4_ n5_; (try clear hb); (try clear ho0); obtain ⟨Ao48, co48, eo48⟩ := Kd.R_slice HO469.out; subst eo48) | (go_at_call 51; (with_reducible refine (laws_contains.calls k _ _ t467 t455 true _ ?side1 ?side2 A33.out).mono ?_); (case side1 => exact mC (Kd.R_reads' HO469.out).2.2); (case side2 => exact (Kd.R_reads' HO469.out).2.1); rintro e w' ⟨rfl, ⟨nd, rfl⟩⟩; have hcz49_0 : w47.cell? ⟨gb463, 0, none⟩ = some (.int .i64 t458) := (blk_cell BK463.out 0).trans rfl; have hcz49_1 : w47.cell? ⟨gb463, 1, none⟩ = some (.slice Ao15 t459.length co15) := (blk_cell BK463.out 1).trans rfl; have hfz49_0 := blk_frozen BK463.out 0; have hfz49_1 := blk_frozen BK463.out 1) | (go_at_call 53; (with_reducible refine (impl_VictimsOf.calls k t458 _ _ t459 t455 t471 _ ?side1 ?side2 A35.out).mono ?_); (case side1 => exact mC (Kd.S_reads' HO461.out).2.2); (case side2 => exact (Kd.S_reads' HO461.out).2.1); rintro e w50 ⟨v472, rfl, ho0, hb⟩; have n0_ := Aside0.mk (Kd.S_elder' (mS HO454.out) (Kd.R_base ho0) hb); have n1_ := Aside0.mk (Kd.S_elder' (mS HO461.out) (Kd.R_base ho0) hb); have n2_ := Aside0.mk (Kd.R_elder' (mR HO469.out) (Kd.R_base ho0) hb); have n3_ := Aside0.mk (Kd.R_lower (Kd.R_new' ho0 (Kd.R_lt (mR HO469.out))) (below_size mG)); have n4_ := Aside0.mk (blk_below (g := gb457) (o := .cells #[.int .i64 t451, .slice Ao10 t452.length co10] 28 (0, 0)) ((mK (BK457.out))) hb); have n5_ := Aside0.mk (blk_below (g := gb463) (o := .cells #[.int .i64 t458, .slice Ao15 t459.length co15] 28 (0, 0)) ((mK (BK463.out))) hb); have n6_ := Aside0.mk (below_step mG hb); clear HO454 HO461 HO469 BK457 BK463 HB; have HO454 := n0_; have HO461 := n1_; have HO469 := n2_; have HO473 := n3_; have BK457 := n4_; have BK463 := n5_; have HB := n6_; clear n0_ n1_ n2_ n3_ n4_ n5_ n6_; (try clear hb); (try clear ho0); obtain ⟨Ao51, co51, eo51⟩ := Kd.R_slice HO473.out; subst eo51) | (go_at_call 51; (with_reducible refine (laws_contains.calls k _ _ t471 t456 true _ ?side1 ?side2 A36.out).mono ?_); (case side1 => exact mC (Kd.R_reads' HO473.out).2.2); (case side2 => exact (Kd.R_reads' HO473.out).2.1); rintro e w' ⟨rfl, ⟨nd, rfl⟩⟩))
  go_meet
  case rel => exact ⟨_, H', ⟨by first | omega | exact Nat.le_refl _⟩, ⟨by (with_reducible repeat (first | apply Kd.S_alloc | apply Kd.S_drewN | apply Kd.S_drew)); exact Kd.S_mono HO454.out (fun _ hk => hk.1.1.2)⟩, ⟨by (with_reducible repeat (first | apply Kd.S_alloc | apply Kd.S_drewN | apply Kd.S_drew)); exact Kd.S_mono HO461.out (fun _ hk => hk.1.1.2)⟩, ⟨(mK (BK457.out))⟩, ⟨(mK (BK463.out))⟩, ⟨mG⟩⟩
 case rest =>
  clear HC6; (try clear c19b0); (try clear c19b1); (try clear c91b0); (try clear c91b1); (try clear c91b2); (try clear c92b0); (try clear c92b1); (try clear hcz100_0); (try clear hcz100_1); (try clear hcz101_0); (try clear hcz101_1); (try clear hcz14_0); (try clear hcz14_1); (try clear hcz25_0); (try clear hcz25_1); (try clear hcz27_0); (try clear hcz27_1); (try clear hcz28_0); (try clear hcz28_1); (try clear hcz30_0); (try clear hcz30_1); (try clear hcz39_0); (try clear hcz39_1); (try clear hcz41_0); (try clear hcz41_1); (try clear hcz42_0); (try clear hcz42_1); (try clear hcz44_0); (try clear hcz44_1); (try clear hcz46_0); (try clear hcz46_1); (try clear hcz49_0); (try clear hcz49_1); (try clear hcz53_0); (try clear hcz53_1); (try clear hcz55_0); (try clear hcz55_1); (try clear hcz56_0); (try clear hcz56_1); (try clear hcz58_0); (try clear hcz58_1); (try clear hcz60_0); (try clear hcz60_1); (try clear hcz63_0); (try clear hcz63_1); (try clear hcz67_0); (try clear hcz67_1); (try clear hcz69_0); (try clear hcz69_1); (try clear hcz70_0); (try clear hcz70_1); (try clear hcz72_0); (try clear hcz72_1); (try clear hcz74_0); (try clear hcz74_1); (try clear hcz78_0); (try clear hcz78_1); (try clear hcz80_0); (try clear hcz80_1); (try clear hcz81_0); (try clear hcz81_1); (try clear hcz84_0); (try clear hcz84_1); (try clear hcz86_0); (try clear hcz86_1); (try clear hcz87_0); (try clear hcz87_1); (try clear hcz89_0); (try clear hcz89_1); (try clear hcz94_0); (try clear hcz94_1); (try clear hcz95_0); (try clear hcz95_1); (try clear hcz97_0); (try clear hcz97_1); (try clear hcz98_0); (try clear hcz98_1); (try clear hcz9_0); (try clear hcz9_1); (try clear hfz100_0); (try clear hfz100_1); (try clear hfz101_0); (try clear hfz101_1); (try clear hfz14_0); (try clear hfz14_1); (try clear hfz25_0); (try clear hfz25_1); (try clear hfz27_0); (try clear hfz27_1); (try clear hfz28_0); (try clear hfz28_1); (try clear hfz30_0); (try clear hfz30_1); (try clear hfz39_0); (try clear hfz39_1); (try clear hfz41_0); (try clear hfz41_1); (try clear hfz42_0); (try clear hfz42_1); (try clear hfz44_0); (try clear hfz44_1); (try clear hfz46_0); (try clear hfz46_1); (try clear hfz49_0); (try clear hfz49_1); (try clear hfz53_0); (try clear hfz53_1); (try clear hfz55_0); (try clear hfz55_1); (try clear hfz56_0); (try clear hfz56_1); (try clear hfz58_0); (try clear hfz58_1); (try clear hfz60_0); (try clear hfz60_1); (try clear hfz63_0); (try clear hfz63_1); (try clear hfz67_0); (try clear hfz67_1); (try clear hfz69_0); (try clear hfz69_1); (try clear hfz70_0); (try clear hfz70_1); (try clear hfz72_0); (try clear hfz72_1); (try clear hfz74_0); (try clear hfz74_1); (try clear hfz78_0); (try clear hfz78_1); (try clear hfz80_0); (try clear hfz80_1); (try clear hfz81_0); (try clear hfz81_1); (try clear hfz84_0); (try clear hfz84_1); (try clear hfz86_0); (try clear hfz86_1); (try clear hfz87_0); (try clear hfz87_1); (try clear hfz89_0); (try clear hfz89_1); (try clear hfz94_0); (try clear hfz94_1); (try clear hfz95_0); (try clear hfz95_1); (try clear hfz97_0); (try clear hfz97_1); (try clear hfz98_0); (try clear hfz98_1); (try clear hfz9_0); (try clear hfz9_1)
  obtain ⟨kq, HA, HJ5, HO_458001, HO_464001, BK457, BK463, HB⟩ := hcut
  cases kq with
  | zero => exact absurd HA.out (by simp [laws_FnGraphs.j0])
  | succ kj5 =>
   have H := HA.out
   clear HA
   simp only [laws_FnGraphs.j0] at H
   replace H := Option.bind_eq_some_iff.mp H
   obtain ⟨⟨t475, t476, t479⟩, A1020, H⟩ := H
   try dsimp only at H
   have A102 := Aside0.mk A1020
   clear A1020
   replace H := Option.bind_eq_some_iff.mp H
   obtain ⟨t483, A1030, H⟩ := H
   have A103 := Aside0.mk A1030
   clear A1030
   have H' := Aside0.mk H
   clear H
   go_wp2_with (first | ((with_reducible refine gate_callee (f := 54) rfl ?_); refine goesL_ (some 88) rfl rfl Try.func54 (by kernel_rfl) rfl #[.slice A0 l0.length c0] rfl mA ?_; (with_reducible refine (spec_DrawHitBy.calls kj5 _ _ l0 t475 t476 t479 _ ?side1 ?side2 A102.out).mono ?_); (case side1 => exact mC (Kd.C_below HR0.out HB.out)); (case side2 => exact HC0.out); rintro e w104 ⟨v477, v480, rfl, ho0, ho1, hb⟩; refine ⟨_, rfl, ?_⟩; have n0_ := Aside0.mk (Kd.S_mono (Kd.S_told (Kd.S_told (Kd.S_old (mS HO_458001.out) hb) (Kd.S_base ho0)) (Kd.R_base ho1)) (fun _ h_ => h_.1)); have n1_ := Aside0.mk (Kd.S_mono (Kd.S_told (Kd.S_told (Kd.S_old (mS HO_464001.out) hb) (Kd.S_base ho0)) (Kd.R_base ho1)) (fun _ h_ => h_.1)); have n2_ := Aside0.mk (Kd.S_lower (Kd.S_new' (Kd.S_new' ho0 (Kd.S_lt (mS HO_458001.out))) (Kd.S_lt (mS HO_464001.out))) (below_size mG)); have n3_ := Aside0.mk (Kd.R_lower ho1 (below_size mG)); have n4_ := Aside0.mk (blk_below (g := gb457) (o := .cells #[.int .i64 t451, .slice Ao10 t452.length co10] 28 (0, 0)) ((mK (BK457.out))) hb); have n5_ := Aside0.mk (blk_below (g := gb463) (o := .cells #[.int .i64 t458, .slice Ao15 t459.length co15] 28 (0, 0)) ((mK (BK463.out))) hb); have n6_ := Aside0.mk (below_step mG hb); clear HO_458001 HO_464001 BK457 BK463 HB; have HO_458001 := n0_; have HO_464001 := n1_; have HO478 := n2_; have HO481 := n3_; have BK457 := n4_; have BK463 := n5_; have HB := n6_; clear n0_ n1_ n2_ n3_ n4_ n5_ n6_; (try clear hb); (try clear ho0); (try clear ho1)) | ((with_reducible refine gate_dst (N := 8) rfl ?_); refine box_event ?hg (N := 8) ?hd (cs := #[.int .i64 0, .slice none 0 0]) (t := 28) ?hr ?_; (case hd => rfl); (case hg => rfl); (case hr => first | (go_simp; done) | (go_simp; rfl)); intro gb482 hg w105 hbox hb; have n0_ := Aside0.mk (Kd.S_below (mS HO_458001.out) hb); have n1_ := Aside0.mk (Kd.S_below (mS HO_464001.out) hb); have n2_ := Aside0.mk (Kd.S_below (mS HO478.out) hb); have n3_ := Aside0.mk (Kd.R_below (mR HO481.out) hb); have n4_ := Aside0.mk (blk_below (g := gb457) (o := .cells #[.int .i64 t451, .slice Ao10 t452.length co10] 28 (0, 0)) ((mK (BK457.out))) hb); have n5_ := Aside0.mk (blk_below (g := gb463) (o := .cells #[.int .i64 t458, .slice Ao15 t459.length co15] 28 (0, 0)) ((mK (BK463.out))) hb); have n6_ := Aside0.mk (below_step mG hb); have n7_ := Aside0.mk (hbox); have n8_ := Aside0.mk ((by rw [hg]; exact (below_size mG) : w.heap.size ≤ gb482)); have n9_ := Aside0.mk ((by rw [hg]; exact (below_size mG) : w.heap.size ≤ gb482)); have n10_ := Aside0.mk ((by rw [hg]; exact Nat.ne_of_lt (blk_lt (g := gb457) (o := .cells #[.int .i64 t451, .slice Ao10 t452.length co10] 28 (0, 0)) ((mK (BK457.out)))) : gb457 ≠ gb482)); have n11_ := Aside0.mk ((by rw [hg]; exact Nat.ne_of_gt (blk_lt (g := gb457) (o := .cells #[.int .i64 t451, .slice Ao10 t452.length co10] 28 (0, 0)) ((mK (BK457.out)))) : gb482 ≠ gb457)); have n12_ := Aside0.mk ((by rw [hg]; exact Nat.ne_of_lt (blk_lt (g := gb463) (o := .cells #[.int .i64 t458, .slice Ao15 t459.length co15] 28 (0, 0)) ((mK (BK463.out)))) : gb463 ≠ gb482)); have n13_ := Aside0.mk ((by rw [hg]; exact Nat.ne_of_gt (blk_lt (g := gb463) (o := .cells #[.int .i64 t458, .slice Ao15 t459.length co15] 28 (0, 0)) ((mK (BK463.out)))) : gb482 ≠ gb463)); clear HO_458001 HO_464001 HO478 HO481 BK457 BK463 HB; have HO_458001 := n0_; have HO_464001 := n1_; have HO478 := n2_; have HO481 := n3_; have BK457 := n4_; have BK463 := n5_; have HB := n6_; have BK482 := n7_; have GW482 := n8_; have GE482 := n9_; have NB457_482 := n10_; have NB482_457 := n11_; have NB463_482 := n12_; have NB482_463 := n13_; clear n0_ n1_ n2_ n3_ n4_ n5_ n6_ n7_ n8_ n9_ n10_ n11_ n12_ n13_; clear hb hbox hg; have hnb106 := NB482_457.out; have hnc106 := NB457_482.out; have hnb107 := NB482_463.out; have hnc107 := NB463_482.out; have hcz108_0 : w105.cell? ⟨gb482, 0, none⟩ = some (.int .i64 0) := (blk_cell BK482.out 0).trans rfl; have hcz108_1 : w105.cell? ⟨gb482, 1, none⟩ = some (.slice none 0 0) := (blk_cell BK482.out 1).trans rfl; have hfz108_0 := blk_frozen BK482.out 0; have hfz108_1 := blk_frozen BK482.out 1; obtain ⟨Ao109, co109, eo109⟩ := Kd.S_slice HO478.out; subst eo109; obtain ⟨Ao110, co110, eo110⟩ := Kd.R_slice HO481.out; subst eo110) | ((with_reducible refine gate_callee (f := 24) rfl ?_); refine goesL_ (some 93) rfl rfl Try.func24 (by kernel_rfl) rfl #[.agg #[.int .i64 t475, .slice Ao109 t476.length co109], .slice Ao110 t479.length co110] rfl mA ?_; (with_reducible refine (impl_HitBy.calls kj5 t475 _ _ t476 _ _ t479 t483 _ ?side1 ?side2 ?side3 ?side4 A103.out).mono ?_); (case side1 => refine (Kd.S_reads' (e := 25) (base := w.heap.size) (ok := fun k_ => ((some k_ ≠ (.slice Ao110 t479.length co110 : Value).ownBlock ∧ some k_ ≠ (.slice Ao10 t452.length co10 : Value).ownBlock) ∧ some k_ ≠ (.slice Ao15 t459.length co15 : Value).ownBlock)) (n := t476.length) (c := co109) ?_).2.2; exact (mS ((Kd.S_mono (Kd.S_far (p := ⟨gb482, 1, none⟩) (Kd.S_far (p := ⟨gb482, 0, none⟩) (Kd.S_types HO478.out BK482.out (by decide)) (fun _ hk => hk.2) (.int .i64 t475)) (fun _ hk => hk.2) (.slice Ao109 t476.length co109)) (fun _ h_ => h_.1))))); (case side2 => exact (Kd.S_reads' HO478.out).2.1); (case side3 => refine (Kd.R_reads' (e := 3) (base := w.heap.size) (ok := fun k_ => True) (n := t479.length) (c := co110) ?_).2.2; exact (mR ((Kd.R_mono (Kd.R_far (p := ⟨gb482, 1, none⟩) (Kd.R_far (p := ⟨gb482, 0, none⟩) (Kd.R_types HO481.out BK482.out (by decide)) (fun _ hk => hk.2) (.int .i64 t475)) (fun _ hk => hk.2) (.slice Ao109 t476.length co109)) (fun _ h_ => h_.1))))); (case side4 => exact (Kd.R_reads' HO481.out).2.1); rintro e w111 ⟨v484, rfl, ho0, hb⟩; refine ⟨_, rfl, ?_⟩; have n0_ := Aside0.mk (Kd.S_elder' (mS ((Kd.S_mono (Kd.S_far (p := ⟨gb482, 1, none⟩) (Kd.S_far (p := ⟨gb482, 0, none⟩) (Kd.S_types HO_458001.out BK482.out (by decide)) (fun _ hk => hk.2) (.int .i64 t475)) (fun _ hk => hk.2) (.slice Ao109 t476.length co109)) (fun _ h_ => h_.1)))) (Kd.R_base ho0) hb); have n1_ := Aside0.mk (Kd.S_elder' (mS ((Kd.S_mono (Kd.S_far (p := ⟨gb482, 1, none⟩) (Kd.S_far (p := ⟨gb482, 0, none⟩) (Kd.S_types HO_464001.out BK482.out (by decide)) (fun _ hk => hk.2) (.int .i64 t475)) (fun _ hk => hk.2) (.slice Ao109 t476.length co109)) (fun _ h_ => h_.1)))) (Kd.R_base ho0) hb); have n2_ := Aside0.mk (Kd.S_elder' (mS ((Kd.S_mono (Kd.S_far (p := ⟨gb482, 1, none⟩) (Kd.S_far (p := ⟨gb482, 0, none⟩) (Kd.S_types HO478.out BK482.out (by decide)) (fun _ hk => hk.2) (.int .i64 t475)) (fun _ hk => hk.2) (.slice Ao109 t476.length co109)) (fun _ h_ => h_.1)))) (Kd.R_base ho0) hb); have n3_ := Aside0.mk (Kd.R_elder' (mR ((Kd.R_mono (Kd.R_far (p := ⟨gb482, 1, none⟩) (Kd.R_far (p := ⟨gb482, 0, none⟩) (Kd.R_types HO481.out BK482.out (by decide)) (fun _ hk => hk.2) (.int .i64 t475)) (fun _ hk => hk.2) (.slice Ao109 t476.length co109)) (fun _ h_ => h_.1)))) (Kd.R_base ho0) hb); have n4_ := Aside0.mk (Kd.R_lower (Kd.R_new' ho0 (Kd.R_lt (mR ((Kd.R_mono (Kd.R_far (p := ⟨gb482, 1, none⟩) (Kd.R_far (p := ⟨gb482, 0, none⟩) (Kd.R_types HO481.out BK482.out (by decide)) (fun _ hk => hk.2) (.int .i64 t475)) (fun _ hk => hk.2) (.slice Ao109 t476.length co109)) (fun _ h_ => h_.1)))))) (below_size mG)); have n5_ := Aside0.mk (blk_below (g := gb457) (o := .cells #[.int .i64 t451, .slice Ao10 t452.length co10] 28 (0, 0)) (by refine pK ?_; refine blk_far ?_ NB457_482.out _; refine pK ?_; refine blk_far ?_ NB457_482.out _; refine pK ?_; exact BK457.out) hb); have n6_ := Aside0.mk (blk_below (g := gb463) (o := .cells #[.int .i64 t458, .slice Ao15 t459.length co15] 28 (0, 0)) (by refine pK ?_; refine blk_far ?_ NB463_482.out _; refine pK ?_; refine blk_far ?_ NB463_482.out _; refine pK ?_; exact BK463.out) hb); have n7_ := Aside0.mk (blk_below (g := gb482) (o := .cells #[.int .i64 t475, .slice Ao109 t476.length co109] 28 (0, 0)) (by refine pK ?_; refine blk_put (cs := #[.int .i64 t475, .slice none 0 0]) ?_ 1 _ rfl; refine pK ?_; refine blk_put (cs := #[.int .i64 0, .slice none 0 0]) ?_ 0 _ rfl; refine pK ?_; exact BK482.out) hb); have n8_ := Aside0.mk (below_step mG hb); clear HO_458001 HO_464001 HO478 HO481 BK457 BK463 BK482 HB; have HO_458001 := n0_; have HO_464001 := n1_; have HO478 := n2_; have HO481 := n3_; have HO485 := n4_; have BK457 := n5_; have BK463 := n6_; have BK482 := n7_; have HB := n8_; clear n0_ n1_ n2_ n3_ n4_ n5_ n6_ n7_ n8_; (try clear hb); (try clear ho0)))
   go_loopg [11] kj5 (fun kq v11 w' => ∃ (x11_2 : Int), v11 = .int .i64 x11_2 ∧ Aside0 (laws_FnGraphs.l0 kq t455 t479 t483 x11_2 t451 t452 t475 t476 = some r) ∧ Aside0 (kq ≤ kj5) ∧ Aside0 (Kd.R (Kd.int .i64) 3 w' w.heap.size (fun k_ => some k_ ≠ (v484 : Value).ownBlock) (.slice Ao110 t479.length co110) t479) ∧ Aside0 (Kd.R (Kd.int .i64) 3 w' w.heap.size (fun k_ => some k_ ≠ ((.slice Ao110 t479.length co110) : Value).ownBlock) v484 t483) ∧ Aside0 (Kd.S (Kd.slice 3 (Kd.int .i64)) 25 w' w.heap.size (fun k_ => some k_ ≠ ((.slice Ao110 t479.length co110) : Value).ownBlock ∧ some k_ ≠ (v484 : Value).ownBlock ∧ some k_ ≠ ((.slice Ao15 t459.length co15) : Value).ownBlock ∧ some k_ ≠ ((.slice Ao109 t476.length co109) : Value).ownBlock) (.slice Ao10 t452.length co10) t452) ∧ Aside0 (Kd.S (Kd.slice 3 (Kd.int .i64)) 25 w' w.heap.size (fun k_ => some k_ ≠ ((.slice Ao110 t479.length co110) : Value).ownBlock ∧ some k_ ≠ (v484 : Value).ownBlock ∧ some k_ ≠ ((.slice Ao10 t452.length co10) : Value).ownBlock ∧ some k_ ≠ ((.slice Ao109 t476.length co109) : Value).ownBlock) (.slice Ao15 t459.length co15) t459) ∧ Aside0 (Kd.S (Kd.slice 3 (Kd.int .i64)) 25 w' w.heap.size (fun k_ => some k_ ≠ ((.slice Ao110 t479.length co110) : Value).ownBlock ∧ some k_ ≠ (v484 : Value).ownBlock ∧ some k_ ≠ ((.slice Ao10 t452.length co10) : Value).ownBlock ∧ some k_ ≠ ((.slice Ao15 t459.length co15) : Value).ownBlock) (.slice Ao109 t476.length co109) t476) ∧ Aside0 (w'.heap[gb457]? = some (.cells #[.int .i64 t451, (.slice Ao10 t452.length co10)] 28 (0, 0))) ∧ Aside0 (w'.heap[gb463]? = some (.cells #[.int .i64 t458, (.slice Ao15 t459.length co15)] 28 (0, 0))) ∧ Aside0 (w'.heap[gb482]? = some (.cells #[.int .i64 t475, (.slice Ao109 t476.length co109)] 28 (0, 0))) ∧ Aside0 (Below w.heap.size w w'))
   case atStart => exact ⟨(0), mF, H', ⟨Nat.le_refl _⟩, ⟨by (with_reducible repeat (first | apply Kd.R_alloc | apply Kd.R_drewN | apply Kd.R_drew)); exact Kd.R_mono HO481.out (fun _ hk => hk.2)⟩, ⟨by (with_reducible repeat (first | apply Kd.R_alloc | apply Kd.R_drewN | apply Kd.R_drew)); exact Kd.R_mono HO485.out (fun _ hk => hk.2)⟩, ⟨by (with_reducible repeat (first | apply Kd.S_alloc | apply Kd.S_drewN | apply Kd.S_drew)); exact Kd.S_mono HO_458001.out (fun _ hk => ⟨hk.1.2, ⟨hk.2, ⟨hk.1.1.1, hk.1.1.2⟩⟩⟩)⟩, ⟨by (with_reducible repeat (first | apply Kd.S_alloc | apply Kd.S_drewN | apply Kd.S_drew)); exact Kd.S_mono HO_464001.out (fun _ hk => ⟨hk.1.2, ⟨hk.2, ⟨hk.1.1.1, hk.1.1.2⟩⟩⟩)⟩, ⟨by (with_reducible repeat (first | apply Kd.S_alloc | apply Kd.S_drewN | apply Kd.S_drew)); exact Kd.S_mono HO478.out (fun _ hk => ⟨hk.1.1.1, ⟨hk.2, ⟨hk.1.1.2, hk.1.2⟩⟩⟩)⟩, ⟨(mK (BK457.out))⟩, ⟨(mK (BK463.out))⟩, ⟨(mK (BK482.out))⟩, ⟨mG⟩⟩
   case round =>
    clear H'
    (try clear c19b0); (try clear c19b1); (try clear c91b0); (try clear c91b1); (try clear c91b2); (try clear c92b0); (try clear c92b1); (try clear hcz100_0); (try clear hcz100_1); (try clear hcz101_0); (try clear hcz101_1); (try clear hcz108_0); (try clear hcz108_1); (try clear hcz14_0); (try clear hcz14_1); (try clear hcz25_0); (try clear hcz25_1); (try clear hcz27_0); (try clear hcz27_1); (try clear hcz28_0); (try clear hcz28_1); (try clear hcz30_0); (try clear hcz30_1); (try clear hcz39_0); (try clear hcz39_1); (try clear hcz41_0); (try clear hcz41_1); (try clear hcz42_0); (try clear hcz42_1); (try clear hcz44_0); (try clear hcz44_1); (try clear hcz46_0); (try clear hcz46_1); (try clear hcz49_0); (try clear hcz49_1); (try clear hcz53_0); (try clear hcz53_1); (try clear hcz55_0); (try clear hcz55_1); (try clear hcz56_0); (try clear hcz56_1); (try clear hcz58_0); (try clear hcz58_1); (try clear hcz60_0); (try clear hcz60_1); (try clear hcz63_0); (try clear hcz63_1); (try clear hcz67_0); (try clear hcz67_1); (try clear hcz69_0); (try clear hcz69_1); (try clear hcz70_0); (try clear hcz70_1); (try clear hcz72_0); (try clear hcz72_1); (try clear hcz74_0); (try clear hcz74_1); (try clear hcz78_0); (try clear hcz78_1); (try clear hcz80_0); (try clear hcz80_1); (try clear hcz81_0); (try clear hcz81_1); (try clear hcz84_0); (try clear hcz84_1); (try clear hcz86_0); (try clear hcz86_1); (try clear hcz87_0); (try clear hcz87_1); (try clear hcz89_0); (try clear hcz89_1); (try clear hcz94_0); (try clear hcz94_1); (try clear hcz95_0); (try clear hcz95_1); (try clear hcz97_0); (try clear hcz97_1); (try clear hcz98_0); (try clear hcz98_1); (try clear hcz9_0); (try clear hcz9_1); (try clear hfz100_0); (try clear hfz100_1); (try clear hfz101_0); (try clear hfz101_1); (try clear hfz108_0); (try clear hfz108_1); (try clear hfz14_0); (try clear hfz14_1); (try clear hfz25_0); (try clear hfz25_1); (try clear hfz27_0); (try clear hfz27_1); (try clear hfz28_0); (try clear hfz28_1); (try clear hfz30_0); (try clear hfz30_1); (try clear hfz39_0); (try clear hfz39_1); (try clear hfz41_0); (try clear hfz41_1); (try clear hfz42_0); (try clear hfz42_1); (try clear hfz44_0); (try clear hfz44_1); (try clear hfz46_0); (try clear hfz46_1); (try clear hfz49_0); (try clear hfz49_1); (try clear hfz53_0); (try clear hfz53_1); (try clear hfz55_0); (try clear hfz55_1); (try clear hfz56_0); (try clear hfz56_1); (try clear hfz58_0); (try clear hfz58_1); (try clear hfz60_0); (try clear hfz60_1); (try clear hfz63_0); (try clear hfz63_1); (try clear hfz67_0); (try clear hfz67_1); (try clear hfz69_0); (try clear hfz69_1); (try clear hfz70_0); (try clear hfz70_1); (try clear hfz72_0); (try clear hfz72_1); (try clear hfz74_0); (try clear hfz74_1); (try clear hfz78_0); (try clear hfz78_1); (try clear hfz80_0); (try clear hfz80_1); (try clear hfz81_0); (try clear hfz81_1); (try clear hfz84_0); (try clear hfz84_1); (try clear hfz86_0); (try clear hfz86_1); (try clear hfz87_0); (try clear hfz87_1); (try clear hfz89_0); (try clear hfz89_1); (try clear hfz94_0); (try clear hfz94_1); (try clear hfz95_0); (try clear hfz95_1); (try clear hfz97_0); (try clear hfz97_1); (try clear hfz98_0); (try clear hfz98_1); (try clear hfz9_0); (try clear hfz9_1)
    obtain ⟨x11_2, rfl, HA, HK2, HO_9, HO_10, HO_458001, HO_464001, HO_483001, BK457, BK463, BK482, HB⟩ := hrel
    cases gk with
    | zero => exact absurd HA.out (by simp [laws_FnGraphs.l0])
    | succ k2 =>
     have H := HA.out
     clear HA
     simp only [laws_FnGraphs.l0] at H
     have HC112 := Aside0.mk H
     clear H
     go_upto_region 13 with (fail)
     go_cut [101] (fun v101 wc => ∃ (kq : Nat) (x101_111 : Bool), v101 = .bool x101_111 ∧ Aside0 (laws_FnGraphs.j2 kq t455 t479 t483 x11_2 x101_111 t451 t452 t475 t476 = some r) ∧ Aside0 (kq ≤ k2) ∧ Aside0 (Kd.R (Kd.int .i64) 3 wc w.heap.size (fun k_ => some k_ ≠ (v484 : Value).ownBlock) (.slice Ao110 t479.length co110) t479) ∧ Aside0 (Kd.R (Kd.int .i64) 3 wc w.heap.size (fun k_ => some k_ ≠ ((.slice Ao110 t479.length co110) : Value).ownBlock) v484 t483) ∧ Aside0 (Kd.S (Kd.slice 3 (Kd.int .i64)) 25 wc w.heap.size (fun k_ => some k_ ≠ ((.slice Ao110 t479.length co110) : Value).ownBlock ∧ some k_ ≠ (v484 : Value).ownBlock ∧ some k_ ≠ ((.slice Ao15 t459.length co15) : Value).ownBlock ∧ some k_ ≠ ((.slice Ao109 t476.length co109) : Value).ownBlock) (.slice Ao10 t452.length co10) t452) ∧ Aside0 (Kd.S (Kd.slice 3 (Kd.int .i64)) 25 wc w.heap.size (fun k_ => some k_ ≠ ((.slice Ao110 t479.length co110) : Value).ownBlock ∧ some k_ ≠ (v484 : Value).ownBlock ∧ some k_ ≠ ((.slice Ao10 t452.length co10) : Value).ownBlock ∧ some k_ ≠ ((.slice Ao109 t476.length co109) : Value).ownBlock) (.slice Ao15 t459.length co15) t459) ∧ Aside0 (Kd.S (Kd.slice 3 (Kd.int .i64)) 25 wc w.heap.size (fun k_ => some k_ ≠ ((.slice Ao110 t479.length co110) : Value).ownBlock ∧ some k_ ≠ (v484 : Value).ownBlock ∧ some k_ ≠ ((.slice Ao10 t452.length co10) : Value).ownBlock ∧ some k_ ≠ ((.slice Ao15 t459.length co15) : Value).ownBlock) (.slice Ao109 t476.length co109) t476) ∧ Aside0 (wc.heap[gb457]? = some (.cells #[.int .i64 t451, (.slice Ao10 t452.length co10)] 28 (0, 0))) ∧ Aside0 (wc.heap[gb463]? = some (.cells #[.int .i64 t458, (.slice Ao15 t459.length co15)] 28 (0, 0))) ∧ Aside0 (wc.heap[gb482]? = some (.cells #[.int .i64 t475, (.slice Ao109 t476.length co109)] 28 (0, 0))) ∧ Aside0 (Below w.heap.size w wc))
     case first =>
      have H := HC112.out
      clear HC112
      by_cases c113 : x11_2 < t475
      rotate_left
      ·
       rw [if_neg c113] at H
       have c113b0 : decide (x11_2 < t475) = false := decide_eq_false c113
       clear c113
       (first | rw [c113b0] | (simp only [i64_w, i32_w]; rw [c113b0]) | skip)
       have H' := Aside0.mk H
       clear H
       have hnb119 := NB482_457.out
       have hnc119 := NB457_482.out
       have hnb120 := NB482_463.out
       have hnc120 := NB463_482.out
       have hcz121_0 : wr.cell? ⟨gb482, 0, none⟩ = some (.int .i64 t475) := (blk_cell BK482.out 0).trans rfl
       have hcz121_1 : wr.cell? ⟨gb482, 1, none⟩ = some (.slice Ao109 t476.length co109) := (blk_cell BK482.out 1).trans rfl
       have hfz121_0 := blk_frozen BK482.out 0
       have hfz121_1 := blk_frozen BK482.out 1
       go_wp2
       go_meet
       case rel => exact ⟨_, (false), mF, H', ⟨by have := HJ5.out; have := HK2.out; first | omega | exact Nat.le_refl _⟩, ⟨mR HO_9.out⟩, ⟨mR HO_10.out⟩, ⟨mS HO_458001.out⟩, ⟨mS HO_464001.out⟩, ⟨mS HO_483001.out⟩, ⟨(mK (BK457.out))⟩, ⟨(mK (BK463.out))⟩, ⟨(mK (BK482.out))⟩, ⟨mG⟩⟩
      rw [if_pos c113] at H
      have c113b0 : decide (x11_2 < t475) = true := decide_eq_true c113
      clear c113
      (first | rw [c113b0] | (simp only [i64_w, i32_w]; rw [c113b0]) | skip)
      replace H := Option.bind_eq_some_iff.mp H
      obtain ⟨t486, A1140, H⟩ := H
      have A114 := Aside0.mk A1140
      clear A1140
      have H' := Aside0.mk H
      clear H
      have hnb115 := NB482_457.out
      have hnc115 := NB457_482.out
      have hnb116 := NB482_463.out
      have hnc116 := NB463_482.out
      have hcz117_0 : wr.cell? ⟨gb482, 0, none⟩ = some (.int .i64 t475) := (blk_cell BK482.out 0).trans rfl
      have hcz117_1 : wr.cell? ⟨gb482, 1, none⟩ = some (.slice Ao109 t476.length co109) := (blk_cell BK482.out 1).trans rfl
      have hfz117_0 := blk_frozen BK482.out 0
      have hfz117_1 := blk_frozen BK482.out 1
      go_wp2_with (first | (go_at_call 49; (with_reducible refine (impl_IsGraph.calls k2 t475 _ _ t476 t486 _ ?side1 ?side2 A114.out).mono ?_); (case side1 => exact mC (Kd.S_reads' HO_483001.out).2.2); (case side2 => exact (Kd.S_reads' HO_483001.out).2.1); rintro e w118 ⟨rfl, hb⟩; have n0_ := Aside0.mk (Kd.R_below (mR HO_9.out) hb); have n1_ := Aside0.mk (Kd.R_below (mR HO_10.out) hb); have n2_ := Aside0.mk (Kd.S_below (mS HO_458001.out) hb); have n3_ := Aside0.mk (Kd.S_below (mS HO_464001.out) hb); have n4_ := Aside0.mk (Kd.S_below (mS HO_483001.out) hb); have n5_ := Aside0.mk (blk_below (g := gb457) (o := .cells #[.int .i64 t451, .slice Ao10 t452.length co10] 28 (0, 0)) ((mK (BK457.out))) hb); have n6_ := Aside0.mk (blk_below (g := gb463) (o := .cells #[.int .i64 t458, .slice Ao15 t459.length co15] 28 (0, 0)) ((mK (BK463.out))) hb); have n7_ := Aside0.mk (blk_below (g := gb482) (o := .cells #[.int .i64 t475, .slice Ao109 t476.length co109] 28 (0, 0)) ((mK (BK482.out))) hb); have n8_ := Aside0.mk (below_step mG hb); clear HO_9 HO_10 HO_458001 HO_464001 HO_483001 BK457 BK463 BK482 HB; have HO_9 := n0_; have HO_10 := n1_; have HO_458001 := n2_; have HO_464001 := n3_; have HO_483001 := n4_; have BK457 := n5_; have BK463 := n6_; have BK482 := n7_; have HB := n8_; clear n0_ n1_ n2_ n3_ n4_ n5_ n6_ n7_ n8_; (try clear hb)))
      go_meet
      case rel => exact ⟨_, (t486), mF, H', ⟨by have := HJ5.out; have := HK2.out; first | omega | exact Nat.le_refl _⟩, ⟨mR HO_9.out⟩, ⟨mR HO_10.out⟩, ⟨mS HO_458001.out⟩, ⟨mS HO_464001.out⟩, ⟨mS HO_483001.out⟩, ⟨(mK (BK457.out))⟩, ⟨(mK (BK463.out))⟩, ⟨(mK (BK482.out))⟩, ⟨mG⟩⟩
     case rest =>
      clear HC112; (try clear c19b0); (try clear c19b1); (try clear c91b0); (try clear c91b1); (try clear c91b2); (try clear c92b0); (try clear c92b1); (try clear c113b0); (try clear hcz100_0); (try clear hcz100_1); (try clear hcz101_0); (try clear hcz101_1); (try clear hcz108_0); (try clear hcz108_1); (try clear hcz117_0); (try clear hcz117_1); (try clear hcz121_0); (try clear hcz121_1); (try clear hcz14_0); (try clear hcz14_1); (try clear hcz25_0); (try clear hcz25_1); (try clear hcz27_0); (try clear hcz27_1); (try clear hcz28_0); (try clear hcz28_1); (try clear hcz30_0); (try clear hcz30_1); (try clear hcz39_0); (try clear hcz39_1); (try clear hcz41_0); (try clear hcz41_1); (try clear hcz42_0); (try clear hcz42_1); (try clear hcz44_0); (try clear hcz44_1); (try clear hcz46_0); (try clear hcz46_1); (try clear hcz49_0); (try clear hcz49_1); (try clear hcz53_0); (try clear hcz53_1); (try clear hcz55_0); (try clear hcz55_1); (try clear hcz56_0); (try clear hcz56_1); (try clear hcz58_0); (try clear hcz58_1); (try clear hcz60_0); (try clear hcz60_1); (try clear hcz63_0); (try clear hcz63_1); (try clear hcz67_0); (try clear hcz67_1); (try clear hcz69_0); (try clear hcz69_1); (try clear hcz70_0); (try clear hcz70_1); (try clear hcz72_0); (try clear hcz72_1); (try clear hcz74_0); (try clear hcz74_1); (try clear hcz78_0); (try clear hcz78_1); (try clear hcz80_0); (try clear hcz80_1); (try clear hcz81_0); (try clear hcz81_1); (try clear hcz84_0); (try clear hcz84_1); (try clear hcz86_0); (try clear hcz86_1); (try clear hcz87_0); (try clear hcz87_1); (try clear hcz89_0); (try clear hcz89_1); (try clear hcz94_0); (try clear hcz94_1); (try clear hcz95_0); (try clear hcz95_1); (try clear hcz97_0); (try clear hcz97_1); (try clear hcz98_0); (try clear hcz98_1); (try clear hcz9_0); (try clear hcz9_1); (try clear hfz100_0); (try clear hfz100_1); (try clear hfz101_0); (try clear hfz101_1); (try clear hfz108_0); (try clear hfz108_1); (try clear hfz117_0); (try clear hfz117_1); (try clear hfz121_0); (try clear hfz121_1); (try clear hfz14_0); (try clear hfz14_1); (try clear hfz25_0); (try clear hfz25_1); (try clear hfz27_0); (try clear hfz27_1); (try clear hfz28_0); (try clear hfz28_1); (try clear hfz30_0); (try clear hfz30_1); (try clear hfz39_0); (try clear hfz39_1); (try clear hfz41_0); (try clear hfz41_1); (try clear hfz42_0); (try clear hfz42_1); (try clear hfz44_0); (try clear hfz44_1); (try clear hfz46_0); (try clear hfz46_1); (try clear hfz49_0); (try clear hfz49_1); (try clear hfz53_0); (try clear hfz53_1); (try clear hfz55_0); (try clear hfz55_1); (try clear hfz56_0); (try clear hfz56_1); (try clear hfz58_0); (try clear hfz58_1); (try clear hfz60_0); (try clear hfz60_1); (try clear hfz63_0); (try clear hfz63_1); (try clear hfz67_0); (try clear hfz67_1); (try clear hfz69_0); (try clear hfz69_1); (try clear hfz70_0); (try clear hfz70_1); (try clear hfz72_0); (try clear hfz72_1); (try clear hfz74_0); (try clear hfz74_1); (try clear hfz78_0); (try clear hfz78_1); (try clear hfz80_0); (try clear hfz80_1); (try clear hfz81_0); (try clear hfz81_1); (try clear hfz84_0); (try clear hfz84_1); (try clear hfz86_0); (try clear hfz86_1); (try clear hfz87_0); (try clear hfz87_1); (try clear hfz89_0); (try clear hfz89_1); (try clear hfz94_0); (try clear hfz94_1); (try clear hfz95_0); (try clear hfz95_1); (try clear hfz97_0); (try clear hfz97_1); (try clear hfz98_0); (try clear hfz98_1); (try clear hfz9_0); (try clear hfz9_1)
      obtain ⟨kq, x101_111, rfl, HA, HJ111, HO_9, HO_10, HO_458001, HO_464001, HO_483001, BK457, BK463, BK482, HB⟩ := hcut
      cases kq with
      | zero => exact absurd HA.out (by simp [laws_FnGraphs.j2])
      | succ kj111 =>
       have H := HA.out
       clear HA
       simp only [laws_FnGraphs.j2] at H
       by_cases c122 : x101_111 = true
       rotate_left
       ·
        replace c122 := Bool.eq_false_iff.mpr c122
        subst c122
        rw [if_neg (show ¬ (false = true) by decide)] at H
        replace H := Option.bind_eq_some_iff.mp H
        obtain ⟨t490, A1340, H⟩ := H
        have A134 := Aside0.mk A1340
        clear A1340
        by_cases c135 : t490 = true
        rotate_left
        ·
         replace c135 := Bool.eq_false_iff.mpr c135
         subst c135
         rw [if_neg (show ¬ (false = true) by decide)] at H
         obtain rfl := Option.some.inj H
         obtain ⟨Ao156, co156, eo156⟩ := Kd.R_slice HO_10.out
         subst eo156
         go_wp2_with (first | ((with_reducible refine gate_callee (f := 55) rfl ?_); refine goesL_ (some 126) rfl rfl Try.func55 (by kernel_rfl) rfl #[.slice Ao156 t483.length co156] rfl mA ?_; (with_reducible refine (laws_ascends.calls kj111 _ _ t483 false _ ?side1 ?side2 A134.out).mono ?_); (case side1 => exact mC (Kd.R_reads' HO_10.out).2.2); (case side2 => exact (Kd.R_reads' HO_10.out).2.1); rintro e w' ⟨rfl, ⟨nd, rfl⟩⟩; refine ⟨_, rfl, ?_⟩))
         go_ret
         exact ⟨mE, mG⟩
        subst c135
        rw [if_pos rfl] at H
        replace H := Option.bind_eq_some_iff.mp H
        obtain ⟨t491, A1360, H⟩ := H
        have A136 := Aside0.mk A1360
        clear A1360
        replace H := Option.bind_eq_some_iff.mp H
        obtain ⟨t494, A1370, H⟩ := H
        have A137 := Aside0.mk A1370
        clear A1370
        by_cases c138 : t494 = true
        rotate_left
        ·
         replace c138 := Bool.eq_false_iff.mpr c138
         subst c138
         rw [if_neg (show ¬ (false = true) by decide)] at H
         obtain rfl := Option.some.inj H
         obtain ⟨Ao150, co150, eo150⟩ := Kd.R_slice HO_10.out
         subst eo150
         go_wp2_with (first | ((with_reducible refine gate_callee (f := 55) rfl ?_); refine goesL_ (some 126) rfl rfl Try.func55 (by kernel_rfl) rfl #[.slice Ao150 t483.length co150] rfl mA ?_; (with_reducible refine (laws_ascends.calls kj111 _ _ t483 true _ ?side1 ?side2 A134.out).mono ?_); (case side1 => exact mC (Kd.R_reads' HO_10.out).2.2); (case side2 => exact (Kd.R_reads' HO_10.out).2.1); rintro e w' ⟨rfl, ⟨nd, rfl⟩⟩; refine ⟨_, rfl, ?_⟩; have hnb151 := NB457_463.out; have hnc151 := NB463_457.out; have hnb152 := NB457_482.out; have hnc152 := NB482_457.out; have hcz153_0 : wc.cell? ⟨gb457, 0, none⟩ = some (.int .i64 t451) := (blk_cell BK457.out 0).trans rfl; have hcz153_1 : wc.cell? ⟨gb457, 1, none⟩ = some (.slice Ao10 t452.length co10) := (blk_cell BK457.out 1).trans rfl; have hfz153_0 := blk_frozen BK457.out 0; have hfz153_1 := blk_frozen BK457.out 1) | (go_at_call 52; (with_reducible refine (impl_AttackersOf.calls kj111 t451 _ _ t452 t455 t491 _ ?side1 ?side2 A136.out).mono ?_); (case side1 => exact mC (Kd.S_reads' HO_458001.out).2.2); (case side2 => exact (Kd.S_reads' HO_458001.out).2.1); rintro e w154 ⟨v492, rfl, ho0, hb⟩; have n0_ := Aside0.mk (Kd.R_elder' (mR HO_9.out) (Kd.R_base ho0) hb); have n1_ := Aside0.mk (Kd.R_elder' (mR HO_10.out) (Kd.R_base ho0) hb); have n2_ := Aside0.mk (Kd.S_elder' (mS HO_458001.out) (Kd.R_base ho0) hb); have n3_ := Aside0.mk (Kd.S_elder' (mS HO_464001.out) (Kd.R_base ho0) hb); have n4_ := Aside0.mk (Kd.S_elder' (mS HO_483001.out) (Kd.R_base ho0) hb); have n5_ := Aside0.mk (Kd.R_lower (Kd.R_new' (Kd.R_new' ho0 (Kd.R_lt (mR HO_9.out))) (Kd.R_lt (mR HO_10.out))) (below_size mG)); have n6_ := Aside0.mk (blk_below (g := gb457) (o := .cells #[.int .i64 t451, .slice Ao10 t452.length co10] 28 (0, 0)) ((mK (BK457.out))) hb); have n7_ := Aside0.mk (blk_below (g := gb463) (o := .cells #[.int .i64 t458, .slice Ao15 t459.length co15] 28 (0, 0)) ((mK (BK463.out))) hb); have n8_ := Aside0.mk (blk_below (g := gb482) (o := .cells #[.int .i64 t475, .slice Ao109 t476.length co109] 28 (0, 0)) ((mK (BK482.out))) hb); have n9_ := Aside0.mk (below_step mG hb); clear HO_9 HO_10 HO_458001 HO_464001 HO_483001 BK457 BK463 BK482 HB; have HO_9 := n0_; have HO_10 := n1_; have HO_458001 := n2_; have HO_464001 := n3_; have HO_483001 := n4_; have HO493 := n5_; have BK457 := n6_; have BK463 := n7_; have BK482 := n8_; have HB := n9_; clear n0_ n1_ n2_ n3_ n4_ n5_ n6_ n7_ n8_ n9_; (try clear hb); (try clear ho0); obtain ⟨Ao155, co155, eo155⟩ := Kd.R_slice HO493.out; subst eo155) | (go_at_call 55; (with_reducible refine (laws_ascends.calls kj111 _ _ t491 false _ ?side1 ?side2 A137.out).mono ?_); (case side1 => exact mC (Kd.R_reads' HO493.out).2.2); (case side2 => exact (Kd.R_reads' HO493.out).2.1); rintro e w' ⟨rfl, ⟨nd, rfl⟩⟩))
         go_ret
         exact ⟨mE, mG⟩
        subst c138
        rw [if_pos rfl] at H
        replace H := Option.bind_eq_some_iff.mp H
        obtain ⟨t495, A1390, H⟩ := H
        have A139 := Aside0.mk A1390
        clear A1390
        replace H := Option.bind_eq_some_iff.mp H
        obtain ⟨t498, A1400, H⟩ := H
        have A140 := Aside0.mk A1400
        clear A1400
        obtain rfl := Option.some.inj H
        obtain ⟨Ao141, co141, eo141⟩ := Kd.R_slice HO_10.out
        subst eo141
        go_wp2_with (first | ((with_reducible refine gate_callee (f := 55) rfl ?_); refine goesL_ (some 126) rfl rfl Try.func55 (by kernel_rfl) rfl #[.slice Ao141 t483.length co141] rfl mA ?_; (with_reducible refine (laws_ascends.calls kj111 _ _ t483 true _ ?side1 ?side2 A134.out).mono ?_); (case side1 => exact mC (Kd.R_reads' HO_10.out).2.2); (case side2 => exact (Kd.R_reads' HO_10.out).2.1); rintro e w' ⟨rfl, ⟨nd, rfl⟩⟩; refine ⟨_, rfl, ?_⟩; have hnb142 := NB457_463.out; have hnc142 := NB463_457.out; have hnb143 := NB457_482.out; have hnc143 := NB482_457.out; have hcz144_0 : wc.cell? ⟨gb457, 0, none⟩ = some (.int .i64 t451) := (blk_cell BK457.out 0).trans rfl; have hcz144_1 : wc.cell? ⟨gb457, 1, none⟩ = some (.slice Ao10 t452.length co10) := (blk_cell BK457.out 1).trans rfl; have hfz144_0 := blk_frozen BK457.out 0; have hfz144_1 := blk_frozen BK457.out 1) | (go_at_call 52; (with_reducible refine (impl_AttackersOf.calls kj111 t451 _ _ t452 t455 t491 _ ?side1 ?side2 A136.out).mono ?_); (case side1 => exact mC (Kd.S_reads' HO_458001.out).2.2); (case side2 => exact (Kd.S_reads' HO_458001.out).2.1); rintro e w145 ⟨v492, rfl, ho0, hb⟩; have n0_ := Aside0.mk (Kd.R_elder' (mR HO_9.out) (Kd.R_base ho0) hb); have n1_ := Aside0.mk (Kd.R_elder' (mR HO_10.out) (Kd.R_base ho0) hb); have n2_ := Aside0.mk (Kd.S_elder' (mS HO_458001.out) (Kd.R_base ho0) hb); have n3_ := Aside0.mk (Kd.S_elder' (mS HO_464001.out) (Kd.R_base ho0) hb); have n4_ := Aside0.mk (Kd.S_elder' (mS HO_483001.out) (Kd.R_base ho0) hb); have n5_ := Aside0.mk (Kd.R_lower (Kd.R_new' (Kd.R_new' ho0 (Kd.R_lt (mR HO_9.out))) (Kd.R_lt (mR HO_10.out))) (below_size mG)); have n6_ := Aside0.mk (blk_below (g := gb457) (o := .cells #[.int .i64 t451, .slice Ao10 t452.length co10] 28 (0, 0)) ((mK (BK457.out))) hb); have n7_ := Aside0.mk (blk_below (g := gb463) (o := .cells #[.int .i64 t458, .slice Ao15 t459.length co15] 28 (0, 0)) ((mK (BK463.out))) hb); have n8_ := Aside0.mk (blk_below (g := gb482) (o := .cells #[.int .i64 t475, .slice Ao109 t476.length co109] 28 (0, 0)) ((mK (BK482.out))) hb); have n9_ := Aside0.mk (below_step mG hb); clear HO_9 HO_10 HO_458001 HO_464001 HO_483001 BK457 BK463 BK482 HB; have HO_9 := n0_; have HO_10 := n1_; have HO_458001 := n2_; have HO_464001 := n3_; have HO_483001 := n4_; have HO493 := n5_; have BK457 := n6_; have BK463 := n7_; have BK482 := n8_; have HB := n9_; clear n0_ n1_ n2_ n3_ n4_ n5_ n6_ n7_ n8_ n9_; (try clear hb); (try clear ho0); obtain ⟨Ao146, co146, eo146⟩ := Kd.R_slice HO493.out; subst eo146) | (go_at_call 55; (with_reducible refine (laws_ascends.calls kj111 _ _ t491 true _ ?side1 ?side2 A137.out).mono ?_); (case side1 => exact mC (Kd.R_reads' HO493.out).2.2); (case side2 => exact (Kd.R_reads' HO493.out).2.1); rintro e w' ⟨rfl, ⟨nd, rfl⟩⟩; have hcz147_0 : w145.cell? ⟨gb457, 0, none⟩ = some (.int .i64 t451) := (blk_cell BK457.out 0).trans rfl; have hcz147_1 : w145.cell? ⟨gb457, 1, none⟩ = some (.slice Ao10 t452.length co10) := (blk_cell BK457.out 1).trans rfl; have hfz147_0 := blk_frozen BK457.out 0; have hfz147_1 := blk_frozen BK457.out 1) | (go_at_call 53; (with_reducible refine (impl_VictimsOf.calls kj111 t451 _ _ t452 t455 t495 _ ?side1 ?side2 A139.out).mono ?_); (case side1 => exact mC (Kd.S_reads' HO_458001.out).2.2); (case side2 => exact (Kd.S_reads' HO_458001.out).2.1); rintro e w148 ⟨v496, rfl, ho0, hb⟩; have n0_ := Aside0.mk (Kd.R_elder' (mR HO_9.out) (Kd.R_base ho0) hb); have n1_ := Aside0.mk (Kd.R_elder' (mR HO_10.out) (Kd.R_base ho0) hb); have n2_ := Aside0.mk (Kd.S_elder' (mS HO_458001.out) (Kd.R_base ho0) hb); have n3_ := Aside0.mk (Kd.S_elder' (mS HO_464001.out) (Kd.R_base ho0) hb); have n4_ := Aside0.mk (Kd.S_elder' (mS HO_483001.out) (Kd.R_base ho0) hb); have n5_ := Aside0.mk (Kd.R_elder' (mR HO493.out) (Kd.R_base ho0) hb); have n6_ := Aside0.mk (Kd.R_lower (Kd.R_new' (Kd.R_new' (Kd.R_new' ho0 (Kd.R_lt (mR HO_9.out))) (Kd.R_lt (mR HO_10.out))) (Kd.R_lt (mR HO493.out))) (below_size mG)); have n7_ := Aside0.mk (blk_below (g := gb457) (o := .cells #[.int .i64 t451, .slice Ao10 t452.length co10] 28 (0, 0)) ((mK (BK457.out))) hb); have n8_ := Aside0.mk (blk_below (g := gb463) (o := .cells #[.int .i64 t458, .slice Ao15 t459.length co15] 28 (0, 0)) ((mK (BK463.out))) hb); have n9_ := Aside0.mk (blk_below (g := gb482) (o := .cells #[.int .i64 t475, .slice Ao109 t476.length co109] 28 (0, 0)) ((mK (BK482.out))) hb); have n10_ := Aside0.mk (below_step mG hb); clear HO_9 HO_10 HO_458001 HO_464001 HO_483001 HO493 BK457 BK463 BK482 HB; have HO_9 := n0_; have HO_10 := n1_; have HO_458001 := n2_; have HO_464001 := n3_; have HO_483001 := n4_; have HO493 := n5_; have HO497 := n6_; have BK457 := n7_; have BK463 := n8_; have BK482 := n9_; have HB := n10_; clear n0_ n1_ n2_ n3_ n4_ n5_ n6_ n7_ n8_ n9_ n10_; (try clear hb); (try clear ho0); obtain ⟨Ao149, co149, eo149⟩ := Kd.R_slice HO497.out; subst eo149) | (go_at_call 55; (with_reducible refine (laws_ascends.calls kj111 _ _ t495 t498 _ ?side1 ?side2 A140.out).mono ?_); (case side1 => exact mC (Kd.R_reads' HO497.out).2.2); (case side2 => exact (Kd.R_reads' HO497.out).2.1); rintro e w' ⟨rfl, ⟨nd, rfl⟩⟩))
        go_ret
        exact ⟨mE, mG⟩
       subst c122
       rw [if_pos rfl] at H
       have H' := Aside0.mk H
       clear H
       go_wp2
       go_loopg [12, 13] kj111 (fun kq v12 v13 w' => ∃ (x12_4 : Bool) (x13_4 : Int), v12 = .bool x12_4 ∧ v13 = .int .i64 x13_4 ∧ Aside0 (laws_FnGraphs.l1 kq t455 t479 t483 x11_2 x12_4 x13_4 t451 t452 t475 t476 = some r) ∧ Aside0 (kq ≤ kj111) ∧ Aside0 (Kd.R (Kd.int .i64) 3 w' w.heap.size (fun k_ => some k_ ≠ (v484 : Value).ownBlock) (.slice Ao110 t479.length co110) t479) ∧ Aside0 (Kd.R (Kd.int .i64) 3 w' w.heap.size (fun k_ => some k_ ≠ ((.slice Ao110 t479.length co110) : Value).ownBlock) v484 t483) ∧ Aside0 (Kd.S (Kd.slice 3 (Kd.int .i64)) 25 w' w.heap.size (fun k_ => some k_ ≠ ((.slice Ao110 t479.length co110) : Value).ownBlock ∧ some k_ ≠ (v484 : Value).ownBlock ∧ some k_ ≠ ((.slice Ao15 t459.length co15) : Value).ownBlock ∧ some k_ ≠ ((.slice Ao109 t476.length co109) : Value).ownBlock) (.slice Ao10 t452.length co10) t452) ∧ Aside0 (Kd.S (Kd.slice 3 (Kd.int .i64)) 25 w' w.heap.size (fun k_ => some k_ ≠ ((.slice Ao110 t479.length co110) : Value).ownBlock ∧ some k_ ≠ (v484 : Value).ownBlock ∧ some k_ ≠ ((.slice Ao10 t452.length co10) : Value).ownBlock ∧ some k_ ≠ ((.slice Ao109 t476.length co109) : Value).ownBlock) (.slice Ao15 t459.length co15) t459) ∧ Aside0 (Kd.S (Kd.slice 3 (Kd.int .i64)) 25 w' w.heap.size (fun k_ => some k_ ≠ ((.slice Ao110 t479.length co110) : Value).ownBlock ∧ some k_ ≠ (v484 : Value).ownBlock ∧ some k_ ≠ ((.slice Ao10 t452.length co10) : Value).ownBlock ∧ some k_ ≠ ((.slice Ao15 t459.length co15) : Value).ownBlock) (.slice Ao109 t476.length co109) t476) ∧ Aside0 (w'.heap[gb457]? = some (.cells #[.int .i64 t451, (.slice Ao10 t452.length co10)] 28 (0, 0))) ∧ Aside0 (w'.heap[gb463]? = some (.cells #[.int .i64 t458, (.slice Ao15 t459.length co15)] 28 (0, 0))) ∧ Aside0 (w'.heap[gb482]? = some (.cells #[.int .i64 t475, (.slice Ao109 t476.length co109)] 28 (0, 0))) ∧ Aside0 (Below w.heap.size w w'))
       case atStart => exact ⟨(false), (0), mF, mF, H', ⟨Nat.le_refl _⟩, ⟨mR HO_9.out⟩, ⟨mR HO_10.out⟩, ⟨mS HO_458001.out⟩, ⟨mS HO_464001.out⟩, ⟨mS HO_483001.out⟩, ⟨(mK (BK457.out))⟩, ⟨(mK (BK463.out))⟩, ⟨(mK (BK482.out))⟩, ⟨mG⟩⟩
       case round =>
        clear H'
        (try clear c19b0); (try clear c19b1); (try clear c91b0); (try clear c91b1); (try clear c91b2); (try clear c92b0); (try clear c92b1); (try clear c113b0); (try clear hcz100_0); (try clear hcz100_1); (try clear hcz101_0); (try clear hcz101_1); (try clear hcz108_0); (try clear hcz108_1); (try clear hcz117_0); (try clear hcz117_1); (try clear hcz121_0); (try clear hcz121_1); (try clear hcz14_0); (try clear hcz14_1); (try clear hcz25_0); (try clear hcz25_1); (try clear hcz27_0); (try clear hcz27_1); (try clear hcz28_0); (try clear hcz28_1); (try clear hcz30_0); (try clear hcz30_1); (try clear hcz39_0); (try clear hcz39_1); (try clear hcz41_0); (try clear hcz41_1); (try clear hcz42_0); (try clear hcz42_1); (try clear hcz44_0); (try clear hcz44_1); (try clear hcz46_0); (try clear hcz46_1); (try clear hcz49_0); (try clear hcz49_1); (try clear hcz53_0); (try clear hcz53_1); (try clear hcz55_0); (try clear hcz55_1); (try clear hcz56_0); (try clear hcz56_1); (try clear hcz58_0); (try clear hcz58_1); (try clear hcz60_0); (try clear hcz60_1); (try clear hcz63_0); (try clear hcz63_1); (try clear hcz67_0); (try clear hcz67_1); (try clear hcz69_0); (try clear hcz69_1); (try clear hcz70_0); (try clear hcz70_1); (try clear hcz72_0); (try clear hcz72_1); (try clear hcz74_0); (try clear hcz74_1); (try clear hcz78_0); (try clear hcz78_1); (try clear hcz80_0); (try clear hcz80_1); (try clear hcz81_0); (try clear hcz81_1); (try clear hcz84_0); (try clear hcz84_1); (try clear hcz86_0); (try clear hcz86_1); (try clear hcz87_0); (try clear hcz87_1); (try clear hcz89_0); (try clear hcz89_1); (try clear hcz94_0); (try clear hcz94_1); (try clear hcz95_0); (try clear hcz95_1); (try clear hcz97_0); (try clear hcz97_1); (try clear hcz98_0); (try clear hcz98_1); (try clear hcz9_0); (try clear hcz9_1); (try clear hfz100_0); (try clear hfz100_1); (try clear hfz101_0); (try clear hfz101_1); (try clear hfz108_0); (try clear hfz108_1); (try clear hfz117_0); (try clear hfz117_1); (try clear hfz121_0); (try clear hfz121_1); (try clear hfz14_0); (try clear hfz14_1); (try clear hfz25_0); (try clear hfz25_1); (try clear hfz27_0); (try clear hfz27_1); (try clear hfz28_0); (try clear hfz28_1); (try clear hfz30_0); (try clear hfz30_1); (try clear hfz39_0); (try clear hfz39_1); (try clear hfz41_0); (try clear hfz41_1); (try clear hfz42_0); (try clear hfz42_1); (try clear hfz44_0); (try clear hfz44_1); (try clear hfz46_0); (try clear hfz46_1); (try clear hfz49_0); (try clear hfz49_1); (try clear hfz53_0); (try clear hfz53_1); (try clear hfz55_0); (try clear hfz55_1); (try clear hfz56_0); (try clear hfz56_1); (try clear hfz58_0); (try clear hfz58_1); (try clear hfz60_0); (try clear hfz60_1); (try clear hfz63_0); (try clear hfz63_1); (try clear hfz67_0); (try clear hfz67_1); (try clear hfz69_0); (try clear hfz69_1); (try clear hfz70_0); (try clear hfz70_1); (try clear hfz72_0); (try clear hfz72_1); (try clear hfz74_0); (try clear hfz74_1); (try clear hfz78_0); (try clear hfz78_1); (try clear hfz80_0); (try clear hfz80_1); (try clear hfz81_0); (try clear hfz81_1); (try clear hfz84_0); (try clear hfz84_1); (try clear hfz86_0); (try clear hfz86_1); (try clear hfz87_0); (try clear hfz87_1); (try clear hfz89_0); (try clear hfz89_1); (try clear hfz94_0); (try clear hfz94_1); (try clear hfz95_0); (try clear hfz95_1); (try clear hfz97_0); (try clear hfz97_1); (try clear hfz98_0); (try clear hfz98_1); (try clear hfz9_0); (try clear hfz9_1)
        obtain ⟨x12_4, x13_4, rfl, rfl, HA, HK4, HO_9, HO_10, HO_458001, HO_464001, HO_483001, BK457, BK463, BK482, HB⟩ := hrel
        cases gk with
        | zero => exact absurd HA.out (by simp [laws_FnGraphs.l1])
        | succ k4 =>
         have H := HA.out
         clear HA
         simp only [laws_FnGraphs.l1] at H
         by_cases c123 : x13_4 < (t479.length : Int)
         rotate_left
         ·
          rw [if_neg c123] at H
          have c123b0 : decide (x13_4 < (t479.length : Int)) = false := decide_eq_false c123
          clear c123
          replace H := Option.bind_eq_some_iff.mp H
          obtain ⟨t489, A1300, H⟩ := H
          have A130 := Aside0.mk A1300
          clear A1300
          by_cases c131 : (x12_4 != t489) = true
          ·
           rw [if_pos c131] at H
           have c131b0 : (x12_4 != t489) = true := c131
           (try (have c131b1 : decide (x12_4 = t489) = false := by simpa using c131))
           (try (have c131b2 : (x12_4 == t489) = false := by simpa using c131))
           (try (have c131b3 : ¬ (x12_4 = t489) := by simpa using c131))
           clear c131
           obtain rfl := Option.some.inj H
           obtain ⟨Ao132, co132, eo132⟩ := Kd.R_slice HO_10.out
           subst eo132
           go_wp2_with (first | ((with_reducible refine gate_callee (f := 51) rfl ?_); refine goesL_ (some 123) rfl rfl Try.func51 (by kernel_rfl) rfl #[.slice Ao132 t483.length co132, .int .i64 x11_2] rfl mA ?_; (with_reducible refine (laws_contains.calls k4 _ _ t483 x11_2 t489 _ ?side1 ?side2 A130.out).mono ?_); (case side1 => exact mC (Kd.R_reads' HO_10.out).2.2); (case side2 => exact (Kd.R_reads' HO_10.out).2.1); rintro e w' ⟨rfl, ⟨nd, rfl⟩⟩; refine ⟨_, rfl, ?_⟩))
           go_ret
           exact ⟨mE, mG⟩
          rw [if_neg c131] at H
          have c131b0 : (x12_4 != t489) = false := by simpa using c131
          (try (have c131b1 : decide (x12_4 = t489) = true := by simpa using c131))
          (try (have c131b2 : (x12_4 == t489) = true := by simpa using c131))
          clear c131
          have H' := Aside0.mk H
          clear H
          obtain ⟨Ao133, co133, eo133⟩ := Kd.R_slice HO_10.out
          subst eo133
          go_wp2_with (first | ((with_reducible refine gate_callee (f := 51) rfl ?_); refine goesL_ (some 123) rfl rfl Try.func51 (by kernel_rfl) rfl #[.slice Ao133 t483.length co133, .int .i64 x11_2] rfl mA ?_; (with_reducible refine (laws_contains.calls k4 _ _ t483 x11_2 t489 _ ?side1 ?side2 A130.out).mono ?_); (case side1 => exact mC (Kd.R_reads' HO_10.out).2.2); (case side2 => exact (Kd.R_reads' HO_10.out).2.1); rintro e w' ⟨rfl, ⟨nd, rfl⟩⟩; refine ⟨_, rfl, ?_⟩))
          go_roundg k4
          case measure => have := HJ5.out; have := HK2.out; have := HJ111.out; have := HK4.out; omega
          case rel => exact ⟨(wrap64 (x11_2 + 1)), mF, H', ⟨by have := HJ5.out; have := HK2.out; have := HJ111.out; have := HK4.out; omega⟩, ⟨mR HO_9.out⟩, ⟨mR HO_10.out⟩, ⟨mS HO_458001.out⟩, ⟨mS HO_464001.out⟩, ⟨mS HO_483001.out⟩, ⟨(mK (BK457.out))⟩, ⟨(mK (BK463.out))⟩, ⟨(mK (BK482.out))⟩, ⟨mG⟩⟩
         rw [if_pos c123] at H
         have c123b0 : decide (x13_4 < (t479.length : Int)) = true := decide_eq_true c123
         clear c123
         by_cases c124 : x12_4 = true
         ·
          subst c124
          rw [if_pos rfl] at H
          have H' := Aside0.mk H
          clear H
          try go_wp2
          have n0_ := Aside0.mk (Kd.R_drew HO_9.out)
          have n1_ := Aside0.mk (Kd.R_drew HO_10.out)
          have n2_ := Aside0.mk (Kd.S_drew HO_458001.out)
          have n3_ := Aside0.mk (Kd.S_drew HO_464001.out)
          have n4_ := Aside0.mk (Kd.S_drew HO_483001.out)
          have n5_ := Aside0.mk (blk_drew BK457.out)
          have n6_ := Aside0.mk (blk_drew BK463.out)
          have n7_ := Aside0.mk (blk_drew BK482.out)
          have n8_ := Aside0.mk (below_drew1 HB.out)
          clear HO_9 HO_10 HO_458001 HO_464001 HO_483001 BK457 BK463 BK482 HB; have HO_9 := n0_; have HO_10 := n1_; have HO_458001 := n2_; have HO_464001 := n3_; have HO_483001 := n4_; have BK457 := n5_; have BK463 := n6_; have BK482 := n7_; have HB := n8_; clear n0_ n1_ n2_ n3_ n4_ n5_ n6_ n7_ n8_
          refine start_ (n := 11) (S := fun w' => True) (ds := []) (L_ 0 11) (by kernel_rfl) rfl rfl trivial (fun hHeld => ?_); refine with_tabW laws_FnGraphs.tab19 laws_FnGraphs.bits19 (fun HT_ HW_ => ?_)
          generalize wr.drew = w125 at HO_9 HO_10 HO_458001 HO_464001 HO_483001 BK457 BK463 BK482 HB hHeld ⊢
          refine ps 0 110 (L_ 1 11) HT_.out ?_
          refine ps 1 111 (L_ 2 11) HT_.out ?_
          refine pure_ (i := 2) (N := some 112) (v := undef) (a' := ?_) (L_ 3 11) rfl rfl (any_of HT_.out (by kernel_rfl)) (fun _ _ _ h => h) (Or.inr ⟨by rfl, rfl⟩) ?_ ?_
          rotate_left
          ·
           simp only [Act.put, List.setIfInBounds_toArray, List.set_cons_zero, List.set_cons_succ, i64_w, i32_w]
           rfl
          refine pure_ (i := 3) (N := some 113) (v := undef) (a' := ?_) (L_ 4 11) rfl rfl (any_of HT_.out (by kernel_rfl)) (fun _ _ _ h => h) (Or.inr ⟨by rfl, rfl⟩) ?_ ?_
          rotate_left
          ·
           simp only [Act.put, List.setIfInBounds_toArray, List.set_cons_zero, List.set_cons_succ, i64_w, i32_w]
           rfl
          refine pure_ (i := 4) (N := some 114) (v := undef) (a' := ?_) (L_ 5 11) rfl rfl (any_of HT_.out (by kernel_rfl)) (fun _ _ _ h => h) (Or.inr ⟨by rfl, rfl⟩) ?_ ?_
          rotate_left
          ·
           simp only [Act.put, List.setIfInBounds_toArray, List.set_cons_zero, List.set_cons_succ, i64_w, i32_w]
           rfl
          refine pure_ (i := 5) (N := some 115) (v := undef) (a' := ?_) (L_ 6 11) rfl rfl (any_of HT_.out (by kernel_rfl)) (fun _ _ _ h => h) (Or.inr ⟨by rfl, rfl⟩) ?_ ?_
          rotate_left
          ·
           simp only [Act.put, List.setIfInBounds_toArray, List.set_cons_zero, List.set_cons_succ, i64_w, i32_w]
           rfl
          refine pure_ (i := 6) (N := some 116) (v := undef) (a' := ?_) (L_ 7 11) rfl rfl (any_of HT_.out (by kernel_rfl)) (fun _ _ _ h => h) (Or.inr ⟨by rfl, rfl⟩) ?_ ?_
          rotate_left
          ·
           simp only [Act.put, List.setIfInBounds_toArray, List.set_cons_zero, List.set_cons_succ, i64_w, i32_w]
           rfl
          refine pure_ (i := 7) (N := some 117) (v := undef) (a' := ?_) (L_ 8 11) rfl rfl (any_of HT_.out (by kernel_rfl)) (fun _ _ _ h => h) (Or.inr ⟨by rfl, rfl⟩) ?_ ?_
          rotate_left
          ·
           simp only [Act.put, List.setIfInBounds_toArray, List.set_cons_zero, List.set_cons_succ, i64_w, i32_w]
           rfl
          refine pure_ (i := 8) (N := some 118) (v := undef) (a' := ?_) (L_ 9 11) rfl rfl (any_of HT_.out (by kernel_rfl)) (fun _ _ _ h => h) (Or.inr ⟨by rfl, rfl⟩) ?_ ?_
          rotate_left
          ·
           simp only [Act.put, List.setIfInBounds_toArray, List.set_cons_zero, List.set_cons_succ, i64_w, i32_w]
           rfl
          refine ps 9 119 (L_ 10 11) HT_.out ?_
          refine ps 10 12 (L_ 11 11) HT_.out ?_
          refine done_ (done_of HT_.out (by kernel_rfl)) ?_
          try go_wp2
          go_roundg k4
          case measure => have := HJ5.out; have := HK2.out; have := HJ111.out; have := HK4.out; omega
          case rel => exact ⟨(true), (wrap64 (x13_4 + 1)), mF, mF, H', ⟨by have := HJ5.out; have := HK2.out; have := HJ111.out; have := HK4.out; omega⟩, ⟨mR HO_9.out⟩, ⟨mR HO_10.out⟩, ⟨mS HO_458001.out⟩, ⟨mS HO_464001.out⟩, ⟨mS HO_483001.out⟩, ⟨(mK (BK457.out))⟩, ⟨(mK (BK463.out))⟩, ⟨(mK (BK482.out))⟩, ⟨mG⟩⟩
         replace c124 := Bool.eq_false_iff.mpr c124
         subst c124
         rw [if_neg (show ¬ (false = true) by decide)] at H
         by_cases c126 : 0 ≤ x13_4
         rotate_left
         ·
          rw [if_neg c126] at H
          exact absurd H (by simp)
         rw [if_pos c126] at H
         have c126b0 : decide (0 ≤ x13_4) = true := decide_eq_true c126
         clear c126
         replace H := Option.bind_eq_some_iff.mp H
         obtain ⟨t488, A1270, H⟩ := H
         have A127 := Aside0.mk A1270
         clear A1270
         have H' := Aside0.mk H
         clear H
         try go_wp2
         have n0_ := Aside0.mk (Kd.R_drew HO_9.out)
         have n1_ := Aside0.mk (Kd.R_drew HO_10.out)
         have n2_ := Aside0.mk (Kd.S_drew HO_458001.out)
         have n3_ := Aside0.mk (Kd.S_drew HO_464001.out)
         have n4_ := Aside0.mk (Kd.S_drew HO_483001.out)
         have n5_ := Aside0.mk (blk_drew BK457.out)
         have n6_ := Aside0.mk (blk_drew BK463.out)
         have n7_ := Aside0.mk (blk_drew BK482.out)
         have n8_ := Aside0.mk (below_drew1 HB.out)
         clear HO_9 HO_10 HO_458001 HO_464001 HO_483001 BK457 BK463 BK482 HB; have HO_9 := n0_; have HO_10 := n1_; have HO_458001 := n2_; have HO_464001 := n3_; have HO_483001 := n4_; have BK457 := n5_; have BK463 := n6_; have BK482 := n7_; have HB := n8_; clear n0_ n1_ n2_ n3_ n4_ n5_ n6_ n7_ n8_
         have p487 : 0 ≤ (x13_4 : Int) := mD
         have q487 : x13_4 < (t479.length : Int) := mD
         obtain ⟨ad487, e487, hx487_0⟩ := Kd.at_int (Kd.R_reads' HO_9.out).2.2 x13_4 p487 q487
         cases e487
         replace p487 := eq_true p487
         replace q487 := eq_true q487
         refine start_ (n := 11) (S := fun w' => w'.cell? ⟨gb482, 0, none⟩ = some (.int .i64 t475) ∧ w'.cell? ⟨gb482, 1, none⟩ = some (.slice Ao109 t476.length co109) ∧ w'.cell? (ad487.add (x13_4).toNat) = some (.int .i64 (rd t479 x13_4))) (ds := []) (L_ 0 11) (by kernel_rfl) rfl rfl ⟨(blk_cell BK482.out 0).trans rfl, (blk_cell BK482.out 1).trans rfl, hx487_0⟩ (fun hHeld => ?_); refine with_tabW laws_FnGraphs.tab19 laws_FnGraphs.bits19 (fun HT_ HW_ => ?_)
         generalize wr.drew = w128 at HO_9 HO_10 HO_458001 HO_464001 HO_483001 BK457 BK463 BK482 HB hx487_0 hHeld ⊢
         refine ps 0 110 (L_ 1 11) HT_.out ?_
         refine ps 1 111 (L_ 2 11) HT_.out ?_
         refine ps 3 113 #[true, true, false, true, false, false, false, false, false, false, false] HT_.out ?_
         refine ps 4 114 #[true, true, false, true, true, false, false, false, false, false, false] HT_.out ?_
         refine ps 5 115 #[true, true, false, true, true, true, false, false, false, false, false] HT_.out ?_
         refine ps 7 117 #[true, true, false, true, true, true, false, true, false, false, false] HT_.out ?_
         refine take_ (i := 2) (N := some 112) (v := ?_) (a' := ?_) #[true, true, true, true, true, true, false, true, false, false, false] rfl rfl (take_ofW HT_.out HW_.out (by kernel_rfl)) (fun _ _ _ h => h) (Or.inl ⟨by rfl, ?_⟩) hHeld ?_ ?_
         rotate_left
         ·
          rintro w' ⟨s0, s1, s2⟩
          go_simp
          with_reducible rfl
         rotate_left
         ·
          simp only [Act.put, List.setIfInBounds_toArray, List.set_cons_zero, List.set_cons_succ, i64_w, i32_w]
          rfl
         refine take_ (i := 6) (N := some 116) (v := ?_) (a' := ?_) (L_ 8 11) rfl rfl (take_ofW HT_.out HW_.out (by kernel_rfl)) (fun _ _ _ h => h) (Or.inl ⟨by rfl, ?_⟩) hHeld ?_ ?_
         rotate_left
         ·
          rintro w' ⟨s0, s1, s2⟩
          go_simp
          with_reducible rfl
         rotate_left
         ·
          simp only [Act.put, List.setIfInBounds_toArray, List.set_cons_zero, List.set_cons_succ, i64_w, i32_w]
          rfl
         refine one_ (i := 8) (N := some 118) (L_ 9 11) rfl rfl (one_of HT_.out (by kernel_rfl)) (by decide) (fun K hK => ?_)
         refine goes_ Try.func50 (by kernel_rfl) rfl #[.agg #[.int .i64 t475, .slice Ao109 t476.length co109], .int .i64 (rd t479 x13_4), .int .i64 x11_2] (by rfl) rfl rfl mA ?_
         with_reducible refine (impl_DoesAttack.calls k4 t475 _ _ t476 (rd t479 x13_4) x11_2 t488 _ ?side1 ?side2 A127.out).mono ?_
         (case side1 => exact mC (Kd.S_reads' HO_483001.out).2.2)
         (case side2 => exact (Kd.S_reads' HO_483001.out).2.1)
         rintro e w129 ⟨rfl, hb⟩
         have HS2_ := (hb.cell (World.block_lt_of_cell? _ _ (hHeld.2.2))).trans (hHeld.2.2)
         refine ⟨_, rfl, ?_⟩
         have n0_ := Aside0.mk (Kd.R_below (mR HO_9.out) hb)
         have n1_ := Aside0.mk (Kd.R_below (mR HO_10.out) hb)
         have n2_ := Aside0.mk (Kd.S_below (mS HO_458001.out) hb)
         have n3_ := Aside0.mk (Kd.S_below (mS HO_464001.out) hb)
         have n4_ := Aside0.mk (Kd.S_below (mS HO_483001.out) hb)
         have n5_ := Aside0.mk (blk_below (g := gb457) (o := .cells #[.int .i64 t451, .slice Ao10 t452.length co10] 28 (0, 0)) ((mK (BK457.out))) hb)
         have n6_ := Aside0.mk (blk_below (g := gb463) (o := .cells #[.int .i64 t458, .slice Ao15 t459.length co15] 28 (0, 0)) ((mK (BK463.out))) hb)
         have n7_ := Aside0.mk (blk_below (g := gb482) (o := .cells #[.int .i64 t475, .slice Ao109 t476.length co109] 28 (0, 0)) ((mK (BK482.out))) hb)
         have n8_ := Aside0.mk (below_step mG hb)
         clear HO_9 HO_10 HO_458001 HO_464001 HO_483001 BK457 BK463 BK482 HB; have HO_9 := n0_; have HO_10 := n1_; have HO_458001 := n2_; have HO_464001 := n3_; have HO_483001 := n4_; have BK457 := n5_; have BK463 := n6_; have BK482 := n7_; have HB := n8_; clear n0_ n1_ n2_ n3_ n4_ n5_ n6_ n7_ n8_; (try clear hb)
         refine hK.out _ _ ⟨(blk_cell BK482.out 0).trans rfl, (blk_cell BK482.out 1).trans rfl, HS2_⟩ (fun hHeld => ?_)
         clear hK K
         refine norm_ (a' := ?_) ?_ ?_
         rotate_left
         ·
          show Act.put _ (some 118) _ = _
          simp only [Act.put, List.setIfInBounds_toArray, List.set_cons_zero, List.set_cons_succ, i64_w, i32_w]
          rfl
         refine ps 9 119 (L_ 10 11) HT_.out ?_
         refine ps 10 12 (L_ 11 11) HT_.out ?_
         refine done_ (done_of HT_.out (by kernel_rfl)) ?_
         try go_wp2
         go_roundg k4
         case measure => have := HJ5.out; have := HK2.out; have := HJ111.out; have := HK4.out; omega
         case rel => exact ⟨(t488), (wrap64 (x13_4 + 1)), mF, mF, H', ⟨by have := HJ5.out; have := HK2.out; have := HJ111.out; have := HK4.out; omega⟩, ⟨mR HO_9.out⟩, ⟨mR HO_10.out⟩, ⟨mS HO_458001.out⟩, ⟨mS HO_464001.out⟩, ⟨mS HO_483001.out⟩, ⟨(mK (BK457.out))⟩, ⟨(mK (BK463.out))⟩, ⟨(mK (BK482.out))⟩, ⟨mG⟩⟩
/-- THE ONE PURE STATEMENT of laws_FnGraphs: yours. -/
def laws_FnGraphs.Pure : Prop := ∀ (l0 : List Int), l0.length ≤ maxLen → l0.length * 1 ≤ 140737488351232 → (∀ x ∈ l0, (Lit.int .u8 x).wf = true) → ∃ k, laws_FnGraphs.f k l0 = some true
theorem laws_FnGraphs.walk (P : laws_FnGraphs.Pure) (a0 : Option Addr) (len0 cap0 : Nat) (z0 : List Int) (w : World) (w0 : (a0 = none ∧ len0 = 0 ∧ cap0 = 0 ∧ z0 = []) ∨ ∃ x, a0 = some x ∧ len0 ≤ cap0 ∧ cap0 ≤ maxLen ∧ z0.length = cap0 ∧ (∀ i, i < z0.length → w.cell? (x.add i) = some (.int .u8 (z0.getD i 0))) ∧ ∀ n ∈ z0, (Lit.int .u8 n).wf = true) (y0 : len0 * 1 ≤ 140737488351232) :
  Calls Try.prog 12 #[.slice a0 len0 cap0] w fun e w' => e = .returned (.bool true) ∧ Below w.heap.size w w' := by
 obtain ⟨l0, rfl, hr0, hm0, hw0, hc0⟩ := ReadsInt.ofRowC w0
 obtain ⟨k, h⟩ := P l0 hm0 y0 hw0
 refine (laws_FnGraphs.calls k _ _ l0 true w (Kd.C_of_reads (d := (0 : Int)) (h1 := fun _ => rfl) hr0) hc0 h).mono ?_
 rintro e w' ⟨rfl, hd⟩
 exact ⟨rfl, hd⟩

end Go.Proofs.Ytelkfhlnejlheaa.GFnGraphs
