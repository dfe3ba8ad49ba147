-- Written by gprint.py, a program of this session, with the printer of the kit as its library. Lean checks it.
import Derived.Test.YtelkfhlnejlheaaGFnFreex0
import Derived.Test.YtelkfhlnejlheaaGFnFreex3
import Derived.Test.YtelkfhlnejlheaaGFnFreex4
import Derived.Test.YtelkfhlnejlheaaGFnFreex7
import Derived.Test.YtelkfhlnejlheaaGFnFreex8
import Derived.Test.YtelkfhlnejlheaaGFnFreex12
namespace Go.Proofs.Ytelkfhlnejlheaa.GFnFree
open Go.RowKit Go.Proofs.YtelkfhlnejlheaaW.PrintWords Go.Proofs.YtelkfhlnejlheaaW.PrintLast Go.Proofs.YtelkfhlnejlheaaW.PrintMore
attribute [local go_sem] max2_int min2_int max_two min_two max_three min_three max_four min_four   -- for this text's walks alone
set_option linter.unusedVariables false
set_option linter.unusedSimpArgs false

/-! ### laws_FnFree: function 13 -/
mutual
def laws_FnFree.j0 : Nat → List Int → Bool → Int → List (List Int) → Option (Bool)
 | 0, _, _, _, _ => none
 | k + 1, x4, x51, x512000, x512001 => if x51 = true then (some false) else ((impl_DefendedBy.f k x512000 x512001 x4).bind fun t528 => ((laws_ascends.f k t528).bind fun t531 => (if t531 = true then ((impl_IsAdmissible.f k x512000 x512001 x4).bind fun t532 => (if t532 = true then ((laws_within.f k x4 t528).bind fun t533 => (laws_FnFree.j1 k x4 t528 (!t533) x512000 x512001)) else (laws_FnFree.j1 k x4 t528 false x512000 x512001))) else (laws_FnFree.j1 k x4 t528 true x512000 x512001))))
def laws_FnFree.j1 : Nat → List Int → List Int → Bool → Int → List (List Int) → Option (Bool)
 | 0, _, _, _, _, _ => none
 | k + 1, x4, x5, x68, x512000, x512001 => if x68 = true then (some false) else (laws_FnFree.l0 k x4 x5 0 x512000 x512001)
def laws_FnFree.l0 : Nat → List Int → List Int → Int → Int → List (List Int) → Option (Bool)
 | 0, _, _, _, _, _ => none
 | k + 1, x4, x5, x6, x512000, x512001 => if x6 < x512000 then ((impl_IsSet.f k x512000 x512001 x4).bind fun t534 => (laws_FnFree.j3 k x4 x5 x6 t534 x512000 x512001)) else (laws_FnFree.j3 k x4 x5 x6 false x512000 x512001)
def laws_FnFree.j3 : Nat → List Int → List Int → Int → Bool → Int → List (List Int) → Option (Bool)
 | 0, _, _, _, _, _, _ => none
 | k + 1, x4, x5, x6, x77, x512000, x512001 => if x77 = true then ((laws_contains.f k x5 x6).bind fun t537 => ((impl_Defends.f k x512000 x512001 x4 x6).bind fun t538 => (if (t537 != t538) = true then (some false) else (if (x4.length : Int) > 0 then (if 1 ≤ (x4.length : Int) then ((impl_DefendedBy.f k x512000 x512001 (x4.drop 1)).bind fun t543 => ((laws_within.f k t543 x5).bind fun t546 => (if t546 = true then (laws_FnFree.l0 k x4 x5 (wrap64 (x6 + 1)) x512000 x512001) else (some false)))) else (none)) else (laws_FnFree.l0 k x4 x5 (wrap64 (x6 + 1)) x512000 x512001))))) else ((impl_IsAdmissible.f k x512000 x512001 x4).bind fun t535 => (if t535 = true then ((impl_IsFree.f k x512000 x512001 x5).bind fun t536 => (some t536)) else (some true)))
end
def laws_FnFree.f (k : Nat) (l0 : List Int) : Option (Bool) := (laws_big.f l0).bind fun t503 => (if t503 = true then (some true) else ((spec_DrawIsStable.f k l0).bind fun bt504 => ((impl_IsAdmissible.f k bt504.1 bt504.2.1 bt504.2.2).bind fun t512 => ((spec_IsAdmissible.f k bt504.1 bt504.2.1 bt504.2.2).bind fun t513 => (if (t512 != t513) = true then (some false) else ((impl_IsStable.f k bt504.1 bt504.2.1 bt504.2.2).bind fun t514 => (if t514 = true then ((impl_IsAdmissible.f k bt504.1 bt504.2.1 bt504.2.2).bind fun t515 => (if t515 = true then ((impl_IsAdmissible.f k bt504.1 bt504.2.1 bt504.2.2).bind fun t516 => (if t516 = true then ((impl_IsFree.f k bt504.1 bt504.2.1 bt504.2.2).bind fun t517 => (if t517 = true then ((impl_IsFree.f k bt504.1 bt504.2.1 bt504.2.2).bind fun t518 => (if t518 = true then ((impl_IsSet.f k bt504.1 bt504.2.1 bt504.2.2).bind fun t519 => (laws_FnFree.j0 k bt504.2.2 (!t519) bt504.1 bt504.2.1)) else (laws_FnFree.j0 k bt504.2.2 false bt504.1 bt504.2.1))) else (laws_FnFree.j0 k bt504.2.2 true bt504.1 bt504.2.1))) else ((impl_IsFree.f k bt504.1 bt504.2.1 bt504.2.2).bind fun t520 => (if t520 = true then ((impl_IsSet.f k bt504.1 bt504.2.1 bt504.2.2).bind fun t521 => (laws_FnFree.j0 k bt504.2.2 (!t521) bt504.1 bt504.2.1)) else (laws_FnFree.j0 k bt504.2.2 false bt504.1 bt504.2.1))))) else (laws_FnFree.j0 k bt504.2.2 true bt504.1 bt504.2.1))) else ((impl_IsAdmissible.f k bt504.1 bt504.2.1 bt504.2.2).bind fun t522 => (if t522 = true then ((impl_IsFree.f k bt504.1 bt504.2.1 bt504.2.2).bind fun t523 => (if t523 = true then ((impl_IsFree.f k bt504.1 bt504.2.1 bt504.2.2).bind fun t524 => (if t524 = true then ((impl_IsSet.f k bt504.1 bt504.2.1 bt504.2.2).bind fun t525 => (laws_FnFree.j0 k bt504.2.2 (!t525) bt504.1 bt504.2.1)) else (laws_FnFree.j0 k bt504.2.2 false bt504.1 bt504.2.1))) else (laws_FnFree.j0 k bt504.2.2 true bt504.1 bt504.2.1))) else ((impl_IsFree.f k bt504.1 bt504.2.1 bt504.2.2).bind fun t526 => (if t526 = true then ((impl_IsSet.f k bt504.1 bt504.2.1 bt504.2.2).bind fun t527 => (laws_FnFree.j0 k bt504.2.2 (!t527) bt504.1 bt504.2.1)) else (laws_FnFree.j0 k bt504.2.2 false bt504.1 bt504.2.1))))))))))))
theorem laws_FnFree.mono_l : ∀ k, (∀ y0 y1 y2 y3, LeO (laws_FnFree.j0 k y0 y1 y2 y3) (laws_FnFree.j0 (k + 1) y0 y1 y2 y3)) ∧ (∀ y0 y1 y2 y3 y4, LeO (laws_FnFree.j1 k y0 y1 y2 y3 y4) (laws_FnFree.j1 (k + 1) y0 y1 y2 y3 y4)) ∧ (∀ y0 y1 y2 y3 y4, LeO (laws_FnFree.l0 k y0 y1 y2 y3 y4) (laws_FnFree.l0 (k + 1) y0 y1 y2 y3 y4)) ∧ (∀ y0 y1 y2 y3 y4 y5, LeO (laws_FnFree.j3 k y0 y1 y2 y3 y4 y5) (laws_FnFree.j3 (k + 1) y0 y1 y2 y3 y4 y5))
 | 0 => ⟨fun _ _ _ _ r h => by simp [laws_FnFree.j0] at h, fun _ _ _ _ _ r h => by simp [laws_FnFree.j1] at h, fun _ _ _ _ _ r h => by simp [laws_FnFree.l0] at h, fun _ _ _ _ _ _ r h => by simp [laws_FnFree.j3] at h⟩
 | k + 1 => by
  obtain ⟨ih0, ih1, ih2, ih3⟩ := laws_FnFree.mono_l k
  refine ⟨?_, ?_, ?_, ?_⟩
  ·
   intro y0 y1 y2 y3
   unfold laws_FnFree.j0
   repeat' with_reducible first | exact ih0 _ _ _ _ | exact ih1 _ _ _ _ _ | exact ih2 _ _ _ _ _ | exact ih3 _ _ _ _ _ _ | exact impl_DefendedBy.mono _ _ _ _ | exact impl_Defends.mono _ _ _ _ _ | exact impl_IsAdmissible.mono _ _ _ _ | exact impl_IsFree.mono _ _ _ _ | exact impl_IsSet.mono _ _ _ _ | exact impl_IsStable.mono _ _ _ _ | exact laws_ascends.mono _ _ | exact laws_contains.mono _ _ _ | exact laws_within.mono _ _ _ | exact spec_DrawIsStable.mono _ _ | exact spec_IsAdmissible.mono _ _ _ _ | exact LeO.refl _ | exact LeO.none _ | refine LeO.ite ?_ ?_ | refine LeO.bind ?_ (fun _ => ?_)
  ·
   intro y0 y1 y2 y3 y4
   unfold laws_FnFree.j1
   repeat' with_reducible first | exact ih0 _ _ _ _ | exact ih1 _ _ _ _ _ | exact ih2 _ _ _ _ _ | exact ih3 _ _ _ _ _ _ | exact impl_DefendedBy.mono _ _ _ _ | exact impl_Defends.mono _ _ _ _ _ | exact impl_IsAdmissible.mono _ _ _ _ | exact impl_IsFree.mono _ _ _ _ | exact impl_IsSet.mono _ _ _ _ | exact impl_IsStable.mono _ _ _ _ | exact laws_ascends.mono _ _ | exact laws_contains.mono _ _ _ | exact laws_within.mono _ _ _ | exact spec_DrawIsStable.mono _ _ | exact spec_IsAdmissible.mono _ _ _ _ | exact LeO.refl _ | exact LeO.none _ | refine LeO.ite ?_ ?_ | refine LeO.bind ?_ (fun _ => ?_)
  ·
   intro y0 y1 y2 y3 y4
   unfold laws_FnFree.l0
   repeat' with_reducible first | exact ih0 _ _ _ _ | exact ih1 _ _ _ _ _ | exact ih2 _ _ _ _ _ | exact ih3 _ _ _ _ _ _ | exact impl_DefendedBy.mono _ _ _ _ | exact impl_Defends.mono _ _ _ _ _ | exact impl_IsAdmissible.mono _ _ _ _ | exact impl_IsFree.mono _ _ _ _ | exact impl_IsSet.mono _ _ _ _ | exact impl_IsStable.mono _ _ _ _ | exact laws_ascends.mono _ _ | exact laws_contains.mono _ _ _ | exact laws_within.mono _ _ _ | exact spec_DrawIsStable.mono _ _ | exact spec_IsAdmissible.mono _ _ _ _ | exact LeO.refl _ | exact LeO.none _ | refine LeO.ite ?_ ?_ | refine LeO.bind ?_ (fun _ => ?_)
  ·
   intro y0 y1 y2 y3 y4 y5
   unfold laws_FnFree.j3
   repeat' with_reducible first | exact ih0 _ _ _ _ | exact ih1 _ _ _ _ _ | exact ih2 _ _ _ _ _ | exact ih3 _ _ _ _ _ _ | exact impl_DefendedBy.mono _ _ _ _ | exact impl_Defends.mono _ _ _ _ _ | exact impl_IsAdmissible.mono _ _ _ _ | exact impl_IsFree.mono _ _ _ _ | exact impl_IsSet.mono _ _ _ _ | exact impl_IsStable.mono _ _ _ _ | exact laws_ascends.mono _ _ | exact laws_contains.mono _ _ _ | exact laws_within.mono _ _ _ | exact spec_DrawIsStable.mono _ _ | exact spec_IsAdmissible.mono _ _ _ _ | exact LeO.refl _ | exact LeO.none _ | refine LeO.ite ?_ ?_ | refine LeO.bind ?_ (fun _ => ?_)
theorem laws_FnFree.mono : ∀ a0 k, LeO (laws_FnFree.f k a0) (laws_FnFree.f (k + 1) a0) := by
 intro a0 k
 obtain ⟨ih0, ih1, ih2, ih3⟩ := laws_FnFree.mono_l k
 unfold laws_FnFree.f
 repeat' with_reducible first | exact ih0 _ _ _ _ | exact ih1 _ _ _ _ _ | exact ih2 _ _ _ _ _ | exact ih3 _ _ _ _ _ _ | exact impl_DefendedBy.mono _ _ _ _ | exact impl_Defends.mono _ _ _ _ _ | exact impl_IsAdmissible.mono _ _ _ _ | exact impl_IsFree.mono _ _ _ _ | exact impl_IsSet.mono _ _ _ _ | exact impl_IsStable.mono _ _ _ _ | exact laws_ascends.mono _ _ | exact laws_contains.mono _ _ _ | exact laws_within.mono _ _ _ | exact spec_DrawIsStable.mono _ _ | exact spec_IsAdmissible.mono _ _ _ _ | exact LeO.refl _ | exact LeO.none _ | refine LeO.ite ?_ ?_ | refine LeO.bind ?_ (fun _ => ?_)
def laws_FnFree.T14 : Bool × List (List Nat × List Nat) := (true, [([], []), ([], []), ([0, 1], [0, 1]), ([], []), ([], []), ([], []), ([3, 4, 5, 2], [3, 4, 5]), ([2, 6], [2, 6])])
def laws_FnFree.B14 : List Nat := [0, 0, 3, 0, 0, 0, 63, 127]
theorem laws_FnFree.tab14 : rtab .any (opsOf Try.f13 14) = laws_FnFree.T14 := by kernel_rfl
theorem laws_FnFree.bits14 : waitsOk laws_FnFree.T14.2 laws_FnFree.B14 = true := by kernel_rfl
def laws_FnFree.T16 : Bool × List (List Nat × List Nat) := (true, [([], []), ([0], [0]), ([1], [1]), ([2], [2]), ([3], [3]), ([3], [3]), ([5, 3], [3, 5]), ([4, 6, 3, 3], [3, 4, 6]), ([3], [3]), ([7, 8, 7, 3], [3, 7, 8]), ([9, 3], [3, 9]), ([3, 10], [3, 10])])
def laws_FnFree.B16 : List Nat := [0, 1, 3, 7, 15, 15, 47, 127, 15, 511, 1023, 2047]
theorem laws_FnFree.tab16 : rtab .any (opsOf Try.f13 16) = laws_FnFree.T16 := by kernel_rfl
theorem laws_FnFree.bits16 : waitsOk laws_FnFree.T16.2 laws_FnFree.B16 = true := by kernel_rfl
set_option maxHeartbeats 8000000 in
set_option maxRecDepth 100000 in
theorem laws_FnFree.calls (k : Nat) (A0 : Option Addr) (c0 : Nat) (l0 : List Int) (r : Bool) (w : World) (hr0 : Kd.C (Kd.int .u8) w A0 l0.length l0) (hc0 : l0.length ≤ c0) (h : laws_FnFree.f k l0 = some r) :
  Calls Try.prog 13 #[.slice A0 l0.length c0] w fun e w' => e = .returned (.bool r) ∧ Below w.heap.size w w' := by
 have hu28 := Try.underlying28
 have HR0 := Aside0.mk hr0
 have HC0 := Aside0.mk hc0
 clear hr0 hc0
 have HB := Aside0.mk (Below.refl w.heap.size w)
 have H : ((laws_big.f l0).bind fun t503 => (if t503 = true then (some true) else ((spec_DrawIsStable.f k l0).bind fun bt504 => ((impl_IsAdmissible.f k bt504.1 bt504.2.1 bt504.2.2).bind fun t512 => ((spec_IsAdmissible.f k bt504.1 bt504.2.1 bt504.2.2).bind fun t513 => (if (t512 != t513) = true then (some false) else ((impl_IsStable.f k bt504.1 bt504.2.1 bt504.2.2).bind fun t514 => (if t514 = true then ((impl_IsAdmissible.f k bt504.1 bt504.2.1 bt504.2.2).bind fun t515 => (if t515 = true then ((impl_IsAdmissible.f k bt504.1 bt504.2.1 bt504.2.2).bind fun t516 => (if t516 = true then ((impl_IsFree.f k bt504.1 bt504.2.1 bt504.2.2).bind fun t517 => (if t517 = true then ((impl_IsFree.f k bt504.1 bt504.2.1 bt504.2.2).bind fun t518 => (if t518 = true then ((impl_IsSet.f k bt504.1 bt504.2.1 bt504.2.2).bind fun t519 => (laws_FnFree.j0 k bt504.2.2 (!t519) bt504.1 bt504.2.1)) else (laws_FnFree.j0 k bt504.2.2 false bt504.1 bt504.2.1))) else (laws_FnFree.j0 k bt504.2.2 true bt504.1 bt504.2.1))) else ((impl_IsFree.f k bt504.1 bt504.2.1 bt504.2.2).bind fun t520 => (if t520 = true then ((impl_IsSet.f k bt504.1 bt504.2.1 bt504.2.2).bind fun t521 => (laws_FnFree.j0 k bt504.2.2 (!t521) bt504.1 bt504.2.1)) else (laws_FnFree.j0 k bt504.2.2 false bt504.1 bt504.2.1))))) else (laws_FnFree.j0 k bt504.2.2 true bt504.1 bt504.2.1))) else ((impl_IsAdmissible.f k bt504.1 bt504.2.1 bt504.2.2).bind fun t522 => (if t522 = true then ((impl_IsFree.f k bt504.1 bt504.2.1 bt504.2.2).bind fun t523 => (if t523 = true then ((impl_IsFree.f k bt504.1 bt504.2.1 bt504.2.2).bind fun t524 => (if t524 = true then ((impl_IsSet.f k bt504.1 bt504.2.1 bt504.2.2).bind fun t525 => (laws_FnFree.j0 k bt504.2.2 (!t525) bt504.1 bt504.2.1)) else (laws_FnFree.j0 k bt504.2.2 false bt504.1 bt504.2.1))) else (laws_FnFree.j0 k bt504.2.2 true bt504.1 bt504.2.1))) else ((impl_IsFree.f k bt504.1 bt504.2.1 bt504.2.2).bind fun t526 => (if t526 = true then ((impl_IsSet.f k bt504.1 bt504.2.1 bt504.2.2).bind fun t527 => (laws_FnFree.j0 k bt504.2.2 (!t527) bt504.1 bt504.2.1)) else (laws_FnFree.j0 k bt504.2.2 false bt504.1 bt504.2.1))))))))))))) = some r := h
 clear h
 replace H := Option.bind_eq_some_iff.mp H
 obtain ⟨t503, A20, H⟩ := H
 have A2 := Aside0.mk A20
 clear A20
 by_cases c3 : t503 = true
 ·
  subst c3
  rw [if_pos rfl] at H
  obtain rfl := Option.some.inj H
  go_enter Try.func13, Try.ntmps13
  go_wp2_with (first | ((with_reducible refine gate_callee (f := 46) rfl ?_); refine goesL_ (some 8) rfl rfl Try.func46 (by kernel_rfl) rfl #[.slice A0 l0.length c0] rfl mA ?_; (with_reducible refine (laws_big.calls _ _ l0 true _ ?side1 ?side2 A2.out).mono ?_); (case side1 => exact mC HR0.out); (case side2 => exact HC0.out); rintro e w' ⟨rfl, ⟨nd, rfl⟩⟩; refine ⟨_, rfl, ?_⟩))
  go_ret
  exact ⟨mE, mB HB.out⟩
 replace c3 := Bool.eq_false_iff.mpr c3
 subst c3
 rw [if_neg (show ¬ (false = true) by decide)] at H
 replace H := Option.bind_eq_some_iff.mp H
 obtain ⟨⟨t504, t505, t508⟩, A40, H⟩ := H
 try dsimp only at H
 have A4 := Aside0.mk A40
 clear A40
 replace H := Option.bind_eq_some_iff.mp H
 obtain ⟨t512, A50, H⟩ := H
 have A5 := Aside0.mk A50
 clear A50
 replace H := Option.bind_eq_some_iff.mp H
 obtain ⟨t513, A60, H⟩ := H
 have A6 := Aside0.mk A60
 clear A60
 by_cases c7 : (t512 != t513) = true
 ·
  rw [if_pos c7] at H
  have c7b0 : (t512 != t513) = true := c7
  (try (have c7b1 : decide (t512 = t513) = false := by simpa using c7))
  (try (have c7b2 : (t512 == t513) = false := by simpa using c7))
  (try (have c7b3 : ¬ (t512 = t513) := by simpa using c7))
  clear c7
  obtain rfl := Option.some.inj H
  go_enter Try.func13, Try.ntmps13
  try go_wp2_with (first | ((with_reducible refine gate_callee (f := 46) rfl ?_); refine goesL_ (some 8) rfl rfl Try.func46 (by kernel_rfl) rfl #[.slice A0 l0.length c0] rfl mA ?_; (with_reducible refine (laws_big.calls _ _ l0 false _ ?side1 ?side2 A2.out).mono ?_); (case side1 => exact mC HR0.out); (case side2 => exact HC0.out); rintro e w' ⟨rfl, ⟨nd, rfl⟩⟩; refine ⟨_, rfl, ?_⟩) | ((with_reducible refine gate_callee (f := 56) rfl ?_); refine goesL_ (some 11) rfl rfl Try.func56 (by kernel_rfl) rfl #[.slice A0 l0.length c0] rfl mA ?_; (with_reducible refine (spec_DrawIsStable.calls k _ _ l0 t504 t505 t508 _ ?side1 ?side2 A4.out).mono ?_); (case side1 => exact mC HR0.out); (case side2 => exact HC0.out); rintro e w8 ⟨v506, v509, rfl, ho0, ho1, hb⟩; refine ⟨_, rfl, ?_⟩; have n0_ := Aside0.mk (Kd.S_lower ho0 (below_size (mB HB.out))); have n1_ := Aside0.mk (Kd.R_lower ho1 (below_size (mB HB.out))); have n2_ := Aside0.mk (below_step (mB HB.out) hb); clear HB; have HO507 := n0_; have HO510 := n1_; have HB := n2_; clear n0_ n1_ n2_; (try clear hb); (try clear ho0); (try clear ho1)) | ((with_reducible refine gate_dst (N := 3) rfl ?_); refine box_event ?hg (N := 3) ?hd (cs := #[.int .i64 0, .slice none 0 0]) (t := 28) ?hr ?_; (case hd => rfl); (case hg => rfl); (case hr => first | (go_simp; done) | (go_simp; rfl)); intro gb511 hg w9 hbox hb; have n0_ := Aside0.mk (Kd.S_below (mS HO507.out) hb); have n1_ := Aside0.mk (Kd.R_below (mR HO510.out) hb); have n2_ := Aside0.mk (below_step (mB HB.out) hb); have n3_ := Aside0.mk (hbox); have n4_ := Aside0.mk ((by rw [hg]; exact (below_size (mB HB.out)) : w.heap.size ≤ gb511)); have n5_ := Aside0.mk ((by rw [hg]; exact (below_size (mB HB.out)) : w.heap.size ≤ gb511)); clear HO507 HO510 HB; have HO507 := n0_; have HO510 := n1_; have HB := n2_; have BK511 := n3_; have GW511 := n4_; have GE511 := n5_; clear n0_ n1_ n2_ n3_ n4_ n5_; clear hb hbox hg; have hcz10_0 : w9.cell? ⟨gb511, 0, none⟩ = some (.int .i64 0) := (blk_cell BK511.out 0).trans rfl; have hcz10_1 : w9.cell? ⟨gb511, 1, none⟩ = some (.slice none 0 0) := (blk_cell BK511.out 1).trans rfl; have hfz10_0 := blk_frozen BK511.out 0; have hfz10_1 := blk_frozen BK511.out 1; obtain ⟨Ao11, co11, eo11⟩ := Kd.S_slice HO507.out; subst eo11))
  have n0_ : Aside0 (Kd.S (Kd.slice 3 (Kd.int .i64)) 25 ((w9.setCell ⟨gb511, 0, none⟩ (.int .i64 t504)).setCell ⟨gb511, 1, none⟩ (.slice Ao11 t505.length co11)) w.heap.size (fun k_ => some k_ ≠ (v509 : Value).ownBlock) (.slice Ao11 t505.length co11) t505) := ⟨by (with_reducible repeat (first | apply Kd.S_alloc | apply Kd.S_drewN | apply Kd.S_drew)); exact Kd.S_mono (Kd.S_far (p := ⟨gb511, 1, none⟩) (Kd.S_far (p := ⟨gb511, 0, none⟩) (Kd.S_types HO507.out BK511.out (by decide)) (fun _ hk => hk.2) (.int .i64 t504)) (fun _ hk => hk.2) (.slice Ao11 t505.length co11)) (fun _ hk => hk.1)⟩
  have n1_ : Aside0 (Kd.R (Kd.int .i64) 3 ((w9.setCell ⟨gb511, 0, none⟩ (.int .i64 t504)).setCell ⟨gb511, 1, none⟩ (.slice Ao11 t505.length co11)) w.heap.size (fun _ => True) v509 t508) := ⟨by (with_reducible repeat (first | apply Kd.R_alloc | apply Kd.R_drewN | apply Kd.R_drew)); exact Kd.R_mono (Kd.R_far (p := ⟨gb511, 1, none⟩) (Kd.R_far (p := ⟨gb511, 0, none⟩) (Kd.R_types HO510.out BK511.out (by decide)) (fun _ hk => hk.2) (.int .i64 t504)) (fun _ hk => hk.2) (.slice Ao11 t505.length co11)) (fun _ hk => trivial)⟩
  have n2_ : Aside0 (((w9.setCell ⟨gb511, 0, none⟩ (.int .i64 t504)).setCell ⟨gb511, 1, none⟩ (.slice Ao11 t505.length co11)).heap[gb511]? = some (.cells #[.int .i64 t504, .slice Ao11 t505.length co11] 28 (0, 0))) := ⟨by refine pK ?_; refine blk_put (cs := #[.int .i64 t504, .slice none 0 0]) ?_ 1 _ rfl; refine pK ?_; refine blk_put (cs := #[.int .i64 0, .slice none 0 0]) ?_ 0 _ rfl; refine pK ?_; exact BK511.out⟩
  have n3_ : Aside0 (Below w.heap.size w ((w9.setCell ⟨gb511, 0, none⟩ (.int .i64 t504)).setCell ⟨gb511, 1, none⟩ (.slice Ao11 t505.length co11))) := ⟨mG⟩
  (try clear HO507); (try clear HO510); (try clear BK511); (try clear HB)
  generalize ((w9.setCell ⟨gb511, 0, none⟩ (.int .i64 t504)).setCell ⟨gb511, 1, none⟩ (.slice Ao11 t505.length co11)) = w12 at n0_ n1_ n2_ n3_ ⊢
  have HO507 := n0_; have HO510 := n1_; have BK511 := n2_; have HB := n3_; clear n0_ n1_ n2_ n3_
  have n0_ := Aside0.mk (Kd.S_drew HO507.out)
  have n1_ := Aside0.mk (Kd.R_drew HO510.out)
  have n2_ := Aside0.mk (blk_drew BK511.out)
  have n3_ := Aside0.mk (below_drew1 HB.out)
  clear HO507 HO510 BK511 HB; have HO507 := n0_; have HO510 := n1_; have BK511 := n2_; have HB := n3_; clear n0_ n1_ n2_ n3_
  obtain ⟨Ao14, co14, eo14⟩ := Kd.R_slice HO510.out
  (first | subst eo14 | (injection eo14 with f1_ f2_ f3_; have f4_ := f1_.symm; have f5_ := f3_.symm; clear f1_ f2_ f3_; subst f4_; subst f5_))
  refine start_ (n := 7) (S := fun w' => w'.cell? ⟨gb511, 0, none⟩ = some (.int .i64 t504) ∧ w'.cell? ⟨gb511, 1, none⟩ = some (.slice Ao11 t505.length co11)) (ds := []) (L_ 0 7) (by kernel_rfl) rfl rfl ⟨(blk_cell BK511.out 0).trans rfl, (blk_cell BK511.out 1).trans rfl⟩ (fun hHeld => ?_)
  generalize w12.drew = w13 at HO507 HO510 BK511 HB hHeld ⊢
  refine pq 1 15 #[false, true, false, false, false, false, false] ?_
  refine pq 4 18 #[false, true, false, false, true, false, false] ?_
  refine take_ (i := 0) (N := some 14) (v := ?_) (a' := ?_) #[true, true, false, false, true, false, false] rfl rfl (by kernel_rfl) (fun _ _ _ h => h) (Or.inl ⟨by rfl, ?_⟩) hHeld ?_ ?_
  rotate_left
  ·
   rintro w' ⟨s0, s1⟩
   go_simp
   with_reducible rfl
  rotate_left
  ·
   simp only [Act.put, List.setIfInBounds_toArray, List.set_cons_zero, List.set_cons_succ, i64_w, i32_w]
   rfl
  refine take_ (i := 3) (N := some 17) (v := ?_) (a' := ?_) #[true, true, false, true, true, false, false] rfl rfl (by kernel_rfl) (fun _ _ _ h => h) (Or.inl ⟨by rfl, ?_⟩) hHeld ?_ ?_
  rotate_left
  ·
   rintro w' ⟨s0, s1⟩
   go_simp
   with_reducible rfl
  rotate_left
  ·
   simp only [Act.put, List.setIfInBounds_toArray, List.set_cons_zero, List.set_cons_succ, i64_w, i32_w]
   rfl
  refine one_ (i := 2) (N := some 16) (L_ 5 7) rfl rfl (by kernel_rfl) (by decide) (fun K hK => ?_)
  refine goes_ Try.func37 (by kernel_rfl) rfl #[.agg #[.int .i64 t504, .slice Ao11 t505.length co11], .slice Ao14 t508.length co14] (by rfl) rfl rfl mA ?_
  with_reducible refine (impl_IsAdmissible.calls k t504 _ _ t505 _ _ t508 t512 _ ?side1 ?side2 ?side3 ?side4 A5.out).mono ?_
  (case side1 => exact mC (Kd.S_reads' HO507.out).2.2)
  (case side2 => exact (Kd.S_reads' HO507.out).2.1)
  (case side3 => exact mC (Kd.R_reads' HO510.out).2.2)
  (case side4 => exact (Kd.R_reads' HO510.out).2.1)
  rintro e w15 ⟨rfl, hb⟩
  refine ⟨_, rfl, ?_⟩
  have n0_ := Aside0.mk (Kd.S_below (mS HO507.out) hb)
  have n1_ := Aside0.mk (Kd.R_below (mR HO510.out) hb)
  have n2_ := Aside0.mk (blk_below (g := gb511) (o := .cells #[.int .i64 t504, .slice Ao11 t505.length co11] 28 (0, 0)) ((mK (BK511.out))) hb)
  have n3_ := Aside0.mk (below_step mG hb)
  clear HO507 HO510 BK511 HB; have HO507 := n0_; have HO510 := n1_; have BK511 := n2_; have HB := n3_; clear n0_ n1_ n2_ n3_; (try clear hb)
  refine hK.out _ _ ⟨(blk_cell BK511.out 0).trans rfl, (blk_cell BK511.out 1).trans rfl⟩ (fun hHeld => ?_)
  clear hK K
  refine norm_ (a' := ?_) ?_ ?_
  rotate_left
  ·
   show Act.put _ (some 16) _ = _
   simp only [Act.put, List.setIfInBounds_toArray, List.set_cons_zero, List.set_cons_succ, i64_w, i32_w]
   rfl
  refine one_ (i := 5) (N := some 19) (L_ 6 7) rfl rfl (by kernel_rfl) (by decide) (fun K hK => ?_)
  refine goes_ Try.func36 (by kernel_rfl) rfl #[.agg #[.int .i64 t504, .slice Ao11 t505.length co11], .slice Ao14 t508.length co14] (by rfl) rfl rfl mA ?_
  with_reducible refine (spec_IsAdmissible.calls k t504 _ _ t505 _ _ t508 t513 _ ?side1 ?side2 ?side3 ?side4 A6.out).mono ?_
  (case side1 => exact mC (Kd.S_reads' HO507.out).2.2)
  (case side2 => exact (Kd.S_reads' HO507.out).2.1)
  (case side3 => exact mC (Kd.R_reads' HO510.out).2.2)
  (case side4 => exact (Kd.R_reads' HO510.out).2.1)
  rintro e w16 ⟨rfl, hb⟩
  refine ⟨_, rfl, ?_⟩
  have n0_ := Aside0.mk (Kd.S_below (mS HO507.out) hb)
  have n1_ := Aside0.mk (Kd.R_below (mR HO510.out) hb)
  have n2_ := Aside0.mk (blk_below (g := gb511) (o := .cells #[.int .i64 t504, .slice Ao11 t505.length co11] 28 (0, 0)) ((mK (BK511.out))) hb)
  have n3_ := Aside0.mk (below_step mG hb)
  clear HO507 HO510 BK511 HB; have HO507 := n0_; have HO510 := n1_; have BK511 := n2_; have HB := n3_; clear n0_ n1_ n2_ n3_; (try clear hb)
  refine hK.out _ _ ⟨(blk_cell BK511.out 0).trans rfl, (blk_cell BK511.out 1).trans rfl⟩ (fun hHeld => ?_)
  clear hK K
  refine norm_ (a' := ?_) ?_ ?_
  rotate_left
  ·
   show Act.put _ (some 19) _ = _
   simp only [Act.put, List.setIfInBounds_toArray, List.set_cons_zero, List.set_cons_succ, i64_w, i32_w]
   rfl
  refine pq 6 20 (L_ 7 7) ?_
  refine done_ (by kernel_rfl) ?_
  try go_wp2
  go_ret
  exact ⟨mE, mG⟩
 rw [if_neg c7] at H
 have c7b0 : (t512 != t513) = false := by simpa using c7
 (try (have c7b1 : decide (t512 = t513) = true := by simpa using c7))
 (try (have c7b2 : (t512 == t513) = true := by simpa using c7))
 clear c7
 have HC17 := Aside0.mk H
 clear H
 go_enter Try.func13, Try.ntmps13
 try go_wp2_with (first | ((with_reducible refine gate_callee (f := 46) rfl ?_); refine goesL_ (some 8) rfl rfl Try.func46 (by kernel_rfl) rfl #[.slice A0 l0.length c0] rfl mA ?_; (with_reducible refine (laws_big.calls _ _ l0 false _ ?side1 ?side2 A2.out).mono ?_); (case side1 => exact mC HR0.out); (case side2 => exact HC0.out); rintro e w' ⟨rfl, ⟨nd, rfl⟩⟩; refine ⟨_, rfl, ?_⟩) | ((with_reducible refine gate_callee (f := 56) rfl ?_); refine goesL_ (some 11) rfl rfl Try.func56 (by kernel_rfl) rfl #[.slice A0 l0.length c0] rfl mA ?_; (with_reducible refine (spec_DrawIsStable.calls k _ _ l0 t504 t505 t508 _ ?side1 ?side2 A4.out).mono ?_); (case side1 => exact mC HR0.out); (case side2 => exact HC0.out); rintro e w18 ⟨v506, v509, rfl, ho0, ho1, hb⟩; refine ⟨_, rfl, ?_⟩; have n0_ := Aside0.mk (Kd.S_lower ho0 (below_size (mB HB.out))); have n1_ := Aside0.mk (Kd.R_lower ho1 (below_size (mB HB.out))); have n2_ := Aside0.mk (below_step (mB HB.out) hb); clear HB; have HO507 := n0_; have HO510 := n1_; have HB := n2_; clear n0_ n1_ n2_; (try clear hb); (try clear ho0); (try clear ho1)) | ((with_reducible refine gate_dst (N := 3) rfl ?_); refine box_event ?hg (N := 3) ?hd (cs := #[.int .i64 0, .slice none 0 0]) (t := 28) ?hr ?_; (case hd => rfl); (case hg => rfl); (case hr => first | (go_simp; done) | (go_simp; rfl)); intro gb511 hg w19 hbox hb; have n0_ := Aside0.mk (Kd.S_below (mS HO507.out) hb); have n1_ := Aside0.mk (Kd.R_below (mR HO510.out) hb); have n2_ := Aside0.mk (below_step (mB HB.out) hb); have n3_ := Aside0.mk (hbox); have n4_ := Aside0.mk ((by rw [hg]; exact (below_size (mB HB.out)) : w.heap.size ≤ gb511)); have n5_ := Aside0.mk ((by rw [hg]; exact (below_size (mB HB.out)) : w.heap.size ≤ gb511)); clear HO507 HO510 HB; have HO507 := n0_; have HO510 := n1_; have HB := n2_; have BK511 := n3_; have GW511 := n4_; have GE511 := n5_; clear n0_ n1_ n2_ n3_ n4_ n5_; clear hb hbox hg; have hcz20_0 : w19.cell? ⟨gb511, 0, none⟩ = some (.int .i64 0) := (blk_cell BK511.out 0).trans rfl; have hcz20_1 : w19.cell? ⟨gb511, 1, none⟩ = some (.slice none 0 0) := (blk_cell BK511.out 1).trans rfl; have hfz20_0 := blk_frozen BK511.out 0; have hfz20_1 := blk_frozen BK511.out 1; obtain ⟨Ao21, co21, eo21⟩ := Kd.S_slice HO507.out; subst eo21))
 have n0_ : Aside0 (Kd.S (Kd.slice 3 (Kd.int .i64)) 25 ((w19.setCell ⟨gb511, 0, none⟩ (.int .i64 t504)).setCell ⟨gb511, 1, none⟩ (.slice Ao21 t505.length co21)) w.heap.size (fun k_ => some k_ ≠ (v509 : Value).ownBlock) (.slice Ao21 t505.length co21) t505) := ⟨by (with_reducible repeat (first | apply Kd.S_alloc | apply Kd.S_drewN | apply Kd.S_drew)); exact Kd.S_mono (Kd.S_far (p := ⟨gb511, 1, none⟩) (Kd.S_far (p := ⟨gb511, 0, none⟩) (Kd.S_types HO507.out BK511.out (by decide)) (fun _ hk => hk.2) (.int .i64 t504)) (fun _ hk => hk.2) (.slice Ao21 t505.length co21)) (fun _ hk => hk.1)⟩
 have n1_ : Aside0 (Kd.R (Kd.int .i64) 3 ((w19.setCell ⟨gb511, 0, none⟩ (.int .i64 t504)).setCell ⟨gb511, 1, none⟩ (.slice Ao21 t505.length co21)) w.heap.size (fun _ => True) v509 t508) := ⟨by (with_reducible repeat (first | apply Kd.R_alloc | apply Kd.R_drewN | apply Kd.R_drew)); exact Kd.R_mono (Kd.R_far (p := ⟨gb511, 1, none⟩) (Kd.R_far (p := ⟨gb511, 0, none⟩) (Kd.R_types HO510.out BK511.out (by decide)) (fun _ hk => hk.2) (.int .i64 t504)) (fun _ hk => hk.2) (.slice Ao21 t505.length co21)) (fun _ hk => trivial)⟩
 have n2_ : Aside0 (((w19.setCell ⟨gb511, 0, none⟩ (.int .i64 t504)).setCell ⟨gb511, 1, none⟩ (.slice Ao21 t505.length co21)).heap[gb511]? = some (.cells #[.int .i64 t504, .slice Ao21 t505.length co21] 28 (0, 0))) := ⟨by refine pK ?_; refine blk_put (cs := #[.int .i64 t504, .slice none 0 0]) ?_ 1 _ rfl; refine pK ?_; refine blk_put (cs := #[.int .i64 0, .slice none 0 0]) ?_ 0 _ rfl; refine pK ?_; exact BK511.out⟩
 have n3_ : Aside0 (Below w.heap.size w ((w19.setCell ⟨gb511, 0, none⟩ (.int .i64 t504)).setCell ⟨gb511, 1, none⟩ (.slice Ao21 t505.length co21))) := ⟨mG⟩
 (try clear HO507); (try clear HO510); (try clear BK511); (try clear HB)
 generalize ((w19.setCell ⟨gb511, 0, none⟩ (.int .i64 t504)).setCell ⟨gb511, 1, none⟩ (.slice Ao21 t505.length co21)) = w22 at n0_ n1_ n2_ n3_ ⊢
 have HO507 := n0_; have HO510 := n1_; have BK511 := n2_; have HB := n3_; clear n0_ n1_ n2_ n3_
 have n0_ := Aside0.mk (Kd.S_drew HO507.out)
 have n1_ := Aside0.mk (Kd.R_drew HO510.out)
 have n2_ := Aside0.mk (blk_drew BK511.out)
 have n3_ := Aside0.mk (below_drew1 HB.out)
 clear HO507 HO510 BK511 HB; have HO507 := n0_; have HO510 := n1_; have BK511 := n2_; have HB := n3_; clear n0_ n1_ n2_ n3_
 obtain ⟨Ao24, co24, eo24⟩ := Kd.R_slice HO510.out
 (first | subst eo24 | (injection eo24 with f1_ f2_ f3_; have f4_ := f1_.symm; have f5_ := f3_.symm; clear f1_ f2_ f3_; subst f4_; subst f5_))
 refine start_ (n := 7) (S := fun w' => w'.cell? ⟨gb511, 0, none⟩ = some (.int .i64 t504) ∧ w'.cell? ⟨gb511, 1, none⟩ = some (.slice Ao21 t505.length co21)) (ds := []) (L_ 0 7) (by kernel_rfl) rfl rfl ⟨(blk_cell BK511.out 0).trans rfl, (blk_cell BK511.out 1).trans rfl⟩ (fun hHeld => ?_)
 generalize w22.drew = w23 at HO507 HO510 BK511 HB hHeld ⊢
 refine pq 1 15 #[false, true, false, false, false, false, false] ?_
 refine pq 4 18 #[false, true, false, false, true, false, false] ?_
 refine take_ (i := 0) (N := some 14) (v := ?_) (a' := ?_) #[true, true, false, false, true, false, false] rfl rfl (by kernel_rfl) (fun _ _ _ h => h) (Or.inl ⟨by rfl, ?_⟩) hHeld ?_ ?_
 rotate_left
 ·
  rintro w' ⟨s0, s1⟩
  go_simp
  with_reducible rfl
 rotate_left
 ·
  simp only [Act.put, List.setIfInBounds_toArray, List.set_cons_zero, List.set_cons_succ, i64_w, i32_w]
  rfl
 refine take_ (i := 3) (N := some 17) (v := ?_) (a' := ?_) #[true, true, false, true, true, false, false] rfl rfl (by kernel_rfl) (fun _ _ _ h => h) (Or.inl ⟨by rfl, ?_⟩) hHeld ?_ ?_
 rotate_left
 ·
  rintro w' ⟨s0, s1⟩
  go_simp
  with_reducible rfl
 rotate_left
 ·
  simp only [Act.put, List.setIfInBounds_toArray, List.set_cons_zero, List.set_cons_succ, i64_w, i32_w]
  rfl
 refine one_ (i := 2) (N := some 16) (L_ 5 7) rfl rfl (by kernel_rfl) (by decide) (fun K hK => ?_)
 refine goes_ Try.func37 (by kernel_rfl) rfl #[.agg #[.int .i64 t504, .slice Ao21 t505.length co21], .slice Ao24 t508.length co24] (by rfl) rfl rfl mA ?_
 with_reducible refine (impl_IsAdmissible.calls k t504 _ _ t505 _ _ t508 t512 _ ?side1 ?side2 ?side3 ?side4 A5.out).mono ?_
 (case side1 => exact mC (Kd.S_reads' HO507.out).2.2)
 (case side2 => exact (Kd.S_reads' HO507.out).2.1)
 (case side3 => exact mC (Kd.R_reads' HO510.out).2.2)
 (case side4 => exact (Kd.R_reads' HO510.out).2.1)
 rintro e w25 ⟨rfl, hb⟩
 refine ⟨_, rfl, ?_⟩
 have n0_ := Aside0.mk (Kd.S_below (mS HO507.out) hb)
 have n1_ := Aside0.mk (Kd.R_below (mR HO510.out) hb)
 have n2_ := Aside0.mk (blk_below (g := gb511) (o := .cells #[.int .i64 t504, .slice Ao21 t505.length co21] 28 (0, 0)) ((mK (BK511.out))) hb)
 have n3_ := Aside0.mk (below_step mG hb)
 clear HO507 HO510 BK511 HB; have HO507 := n0_; have HO510 := n1_; have BK511 := n2_; have HB := n3_; clear n0_ n1_ n2_ n3_; (try clear hb)
 refine hK.out _ _ ⟨(blk_cell BK511.out 0).trans rfl, (blk_cell BK511.out 1).trans rfl⟩ (fun hHeld => ?_)
 clear hK K
 refine norm_ (a' := ?_) ?_ ?_
 rotate_left
 ·
  show Act.put _ (some 16) _ = _
  simp only [Act.put, List.setIfInBounds_toArray, List.set_cons_zero, List.set_cons_succ, i64_w, i32_w]
  rfl
 refine one_ (i := 5) (N := some 19) (L_ 6 7) rfl rfl (by kernel_rfl) (by decide) (fun K hK => ?_)
 refine goes_ Try.func36 (by kernel_rfl) rfl #[.agg #[.int .i64 t504, .slice Ao21 t505.length co21], .slice Ao24 t508.length co24] (by rfl) rfl rfl mA ?_
 with_reducible refine (spec_IsAdmissible.calls k t504 _ _ t505 _ _ t508 t513 _ ?side1 ?side2 ?side3 ?side4 A6.out).mono ?_
 (case side1 => exact mC (Kd.S_reads' HO507.out).2.2)
 (case side2 => exact (Kd.S_reads' HO507.out).2.1)
 (case side3 => exact mC (Kd.R_reads' HO510.out).2.2)
 (case side4 => exact (Kd.R_reads' HO510.out).2.1)
 rintro e w26 ⟨rfl, hb⟩
 refine ⟨_, rfl, ?_⟩
 have n0_ := Aside0.mk (Kd.S_below (mS HO507.out) hb)
 have n1_ := Aside0.mk (Kd.R_below (mR HO510.out) hb)
 have n2_ := Aside0.mk (blk_below (g := gb511) (o := .cells #[.int .i64 t504, .slice Ao21 t505.length co21] 28 (0, 0)) ((mK (BK511.out))) hb)
 have n3_ := Aside0.mk (below_step mG hb)
 clear HO507 HO510 BK511 HB; have HO507 := n0_; have HO510 := n1_; have BK511 := n2_; have HB := n3_; clear n0_ n1_ n2_ n3_; (try clear hb)
 refine hK.out _ _ ⟨(blk_cell BK511.out 0).trans rfl, (blk_cell BK511.out 1).trans rfl⟩ (fun hHeld => ?_)
 clear hK K
 refine norm_ (a' := ?_) ?_ ?_
 rotate_left
 ·
  show Act.put _ (some 19) _ = _
  simp only [Act.put, List.setIfInBounds_toArray, List.set_cons_zero, List.set_cons_succ, i64_w, i32_w]
  rfl
 refine pq 6 20 (L_ 7 7) ?_
 refine done_ (by kernel_rfl) ?_
 go_upto_region 6 with (fail)
 go_cut [51] (fun v51 wc => ∃ (kq : Nat) (x51_16 : Bool), v51 = .bool x51_16 ∧ Aside0 (laws_FnFree.j0 kq t508 x51_16 t504 t505 = some r) ∧ Aside0 (kq ≤ k) ∧ Aside0 (Kd.R (Kd.int .i64) 3 wc w.heap.size (fun _ => True) (.slice Ao24 t508.length co24) t508) ∧ Aside0 (Kd.S (Kd.slice 3 (Kd.int .i64)) 25 wc w.heap.size (fun k_ => some k_ ≠ ((.slice Ao24 t508.length co24) : Value).ownBlock) (.slice Ao21 t505.length co21) t505) ∧ Aside0 (wc.heap[gb511]? = some (.cells #[.int .i64 t504, (.slice Ao21 t505.length co21)] 28 (0, 0))) ∧ Aside0 (Below w.heap.size w wc))
 case first =>
  have H := HC17.out
  clear HC17
  replace H := Option.bind_eq_some_iff.mp H
  obtain ⟨t514, A270, H⟩ := H
  have A27 := Aside0.mk A270
  clear A270
  by_cases c28 : t514 = true
  ·
   subst c28
   rw [if_pos rfl] at H
   replace H := Option.bind_eq_some_iff.mp H
   obtain ⟨t515, A290, H⟩ := H
   have A29 := Aside0.mk A290
   clear A290
   by_cases c30 : t515 = true
   rotate_left
   ·
    replace c30 := Bool.eq_false_iff.mpr c30
    subst c30
    rw [if_neg (show ¬ (false = true) by decide)] at H
    have H' := Aside0.mk H
    clear H
    have hcz89_0 : w26.cell? ⟨gb511, 0, none⟩ = some (.int .i64 t504) := (blk_cell BK511.out 0).trans rfl
    have hcz89_1 : w26.cell? ⟨gb511, 1, none⟩ = some (.slice Ao21 t505.length co21) := (blk_cell BK511.out 1).trans rfl
    have hfz89_0 := blk_frozen BK511.out 0
    have hfz89_1 := blk_frozen BK511.out 1
    go_wp2_with (first | ((with_reducible refine gate_callee (f := 33) rfl ?_); refine goesL_ (some 23) rfl rfl Try.func33 (by kernel_rfl) rfl #[.agg #[.int .i64 t504, .slice Ao21 t505.length co21], .slice Ao24 t508.length co24] rfl mA ?_; (with_reducible refine (impl_IsStable.calls k t504 _ _ t505 _ _ t508 true _ ?side1 ?side2 ?side3 ?side4 A27.out).mono ?_); (case side1 => exact mC (Kd.S_reads' HO507.out).2.2); (case side2 => exact (Kd.S_reads' HO507.out).2.1); (case side3 => exact mC (Kd.R_reads' HO510.out).2.2); (case side4 => exact (Kd.R_reads' HO510.out).2.1); rintro e w90 ⟨rfl, hb⟩; refine ⟨_, rfl, ?_⟩; have n0_ := Aside0.mk (Kd.S_below (mS HO507.out) hb); have n1_ := Aside0.mk (Kd.R_below (mR HO510.out) hb); have n2_ := Aside0.mk (blk_below (g := gb511) (o := .cells #[.int .i64 t504, .slice Ao21 t505.length co21] 28 (0, 0)) ((mK (BK511.out))) hb); have n3_ := Aside0.mk (below_step mG hb); clear HO507 HO510 BK511 HB; have HO507 := n0_; have HO510 := n1_; have BK511 := n2_; have HB := n3_; clear n0_ n1_ n2_ n3_; (try clear hb); have hcz91_0 : w90.cell? ⟨gb511, 0, none⟩ = some (.int .i64 t504) := (blk_cell BK511.out 0).trans rfl; have hcz91_1 : w90.cell? ⟨gb511, 1, none⟩ = some (.slice Ao21 t505.length co21) := (blk_cell BK511.out 1).trans rfl; have hfz91_0 := blk_frozen BK511.out 0; have hfz91_1 := blk_frozen BK511.out 1) | (go_at_call 37; (with_reducible refine (impl_IsAdmissible.calls k t504 _ _ t505 _ _ t508 false _ ?side1 ?side2 ?side3 ?side4 A29.out).mono ?_); (case side1 => exact mC (Kd.S_reads' HO507.out).2.2); (case side2 => exact (Kd.S_reads' HO507.out).2.1); (case side3 => exact mC (Kd.R_reads' HO510.out).2.2); (case side4 => exact (Kd.R_reads' HO510.out).2.1); rintro e w92 ⟨rfl, hb⟩; have n0_ := Aside0.mk (Kd.S_below (mS HO507.out) hb); have n1_ := Aside0.mk (Kd.R_below (mR HO510.out) hb); have n2_ := Aside0.mk (blk_below (g := gb511) (o := .cells #[.int .i64 t504, .slice Ao21 t505.length co21] 28 (0, 0)) ((mK (BK511.out))) hb); have n3_ := Aside0.mk (below_step mG hb); clear HO507 HO510 BK511 HB; have HO507 := n0_; have HO510 := n1_; have BK511 := n2_; have HB := n3_; clear n0_ n1_ n2_ n3_; (try clear hb)))
    go_meet
    case rel => exact ⟨_, (true), mF, H', ⟨by first | omega | exact Nat.le_refl _⟩, ⟨mR HO510.out⟩, ⟨mS HO507.out⟩, ⟨(mK (BK511.out))⟩, ⟨mG⟩⟩
   subst c30
   rw [if_pos rfl] at H
   replace H := Option.bind_eq_some_iff.mp H
   obtain ⟨t516, A310, H⟩ := H
   have A31 := Aside0.mk A310
   clear A310
   obtain rfl : t516 = true := Option.some.inj (A31.out.symm.trans A29.out)
   rw [if_pos rfl] at H
   replace H := Option.bind_eq_some_iff.mp H
   obtain ⟨t517, A330, H⟩ := H
   have A33 := Aside0.mk A330
   clear A330
   by_cases c34 : t517 = true
   rotate_left
   ·
    replace c34 := Bool.eq_false_iff.mpr c34
    subst c34
    rw [if_neg (show ¬ (false = true) by decide)] at H
    have H' := Aside0.mk H
    clear H
    have hcz60_0 : w26.cell? ⟨gb511, 0, none⟩ = some (.int .i64 t504) := (blk_cell BK511.out 0).trans rfl
    have hcz60_1 : w26.cell? ⟨gb511, 1, none⟩ = some (.slice Ao21 t505.length co21) := (blk_cell BK511.out 1).trans rfl
    have hfz60_0 := blk_frozen BK511.out 0
    have hfz60_1 := blk_frozen BK511.out 1
    go_wp2_with (first | ((with_reducible refine gate_callee (f := 33) rfl ?_); refine goesL_ (some 23) rfl rfl Try.func33 (by kernel_rfl) rfl #[.agg #[.int .i64 t504, .slice Ao21 t505.length co21], .slice Ao24 t508.length co24] rfl mA ?_; (with_reducible refine (impl_IsStable.calls k t504 _ _ t505 _ _ t508 true _ ?side1 ?side2 ?side3 ?side4 A27.out).mono ?_); (case side1 => exact mC (Kd.S_reads' HO507.out).2.2); (case side2 => exact (Kd.S_reads' HO507.out).2.1); (case side3 => exact mC (Kd.R_reads' HO510.out).2.2); (case side4 => exact (Kd.R_reads' HO510.out).2.1); rintro e w61 ⟨rfl, hb⟩; refine ⟨_, rfl, ?_⟩; have n0_ := Aside0.mk (Kd.S_below (mS HO507.out) hb); have n1_ := Aside0.mk (Kd.R_below (mR HO510.out) hb); have n2_ := Aside0.mk (blk_below (g := gb511) (o := .cells #[.int .i64 t504, .slice Ao21 t505.length co21] 28 (0, 0)) ((mK (BK511.out))) hb); have n3_ := Aside0.mk (below_step mG hb); clear HO507 HO510 BK511 HB; have HO507 := n0_; have HO510 := n1_; have BK511 := n2_; have HB := n3_; clear n0_ n1_ n2_ n3_; (try clear hb); have hcz62_0 : w61.cell? ⟨gb511, 0, none⟩ = some (.int .i64 t504) := (blk_cell BK511.out 0).trans rfl; have hcz62_1 : w61.cell? ⟨gb511, 1, none⟩ = some (.slice Ao21 t505.length co21) := (blk_cell BK511.out 1).trans rfl; have hfz62_0 := blk_frozen BK511.out 0; have hfz62_1 := blk_frozen BK511.out 1) | (go_at_call 37; (with_reducible refine (impl_IsAdmissible.calls k t504 _ _ t505 _ _ t508 true _ ?side1 ?side2 ?side3 ?side4 A29.out).mono ?_); (case side1 => exact mC (Kd.S_reads' HO507.out).2.2); (case side2 => exact (Kd.S_reads' HO507.out).2.1); (case side3 => exact mC (Kd.R_reads' HO510.out).2.2); (case side4 => exact (Kd.R_reads' HO510.out).2.1); rintro e w63 ⟨rfl, hb⟩; have n0_ := Aside0.mk (Kd.S_below (mS HO507.out) hb); have n1_ := Aside0.mk (Kd.R_below (mR HO510.out) hb); have n2_ := Aside0.mk (blk_below (g := gb511) (o := .cells #[.int .i64 t504, .slice Ao21 t505.length co21] 28 (0, 0)) ((mK (BK511.out))) hb); have n3_ := Aside0.mk (below_step mG hb); clear HO507 HO510 BK511 HB; have HO507 := n0_; have HO510 := n1_; have BK511 := n2_; have HB := n3_; clear n0_ n1_ n2_ n3_; (try clear hb); have hcz64_0 : w63.cell? ⟨gb511, 0, none⟩ = some (.int .i64 t504) := (blk_cell BK511.out 0).trans rfl; have hcz64_1 : w63.cell? ⟨gb511, 1, none⟩ = some (.slice Ao21 t505.length co21) := (blk_cell BK511.out 1).trans rfl; have hfz64_0 := blk_frozen BK511.out 0; have hfz64_1 := blk_frozen BK511.out 1) | (go_at_call 37; (with_reducible refine (impl_IsAdmissible.calls k t504 _ _ t505 _ _ t508 true _ ?side1 ?side2 ?side3 ?side4 A31.out).mono ?_); (case side1 => exact mC (Kd.S_reads' HO507.out).2.2); (case side2 => exact (Kd.S_reads' HO507.out).2.1); (case side3 => exact mC (Kd.R_reads' HO510.out).2.2); (case side4 => exact (Kd.R_reads' HO510.out).2.1); rintro e w65 ⟨rfl, hb⟩; have n0_ := Aside0.mk (Kd.S_below (mS HO507.out) hb); have n1_ := Aside0.mk (Kd.R_below (mR HO510.out) hb); have n2_ := Aside0.mk (blk_below (g := gb511) (o := .cells #[.int .i64 t504, .slice Ao21 t505.length co21] 28 (0, 0)) ((mK (BK511.out))) hb); have n3_ := Aside0.mk (below_step mG hb); clear HO507 HO510 BK511 HB; have HO507 := n0_; have HO510 := n1_; have BK511 := n2_; have HB := n3_; clear n0_ n1_ n2_ n3_; (try clear hb); have hcz66_0 : w65.cell? ⟨gb511, 0, none⟩ = some (.int .i64 t504) := (blk_cell BK511.out 0).trans rfl; have hcz66_1 : w65.cell? ⟨gb511, 1, none⟩ = some (.slice Ao21 t505.length co21) := (blk_cell BK511.out 1).trans rfl; have hfz66_0 := blk_frozen BK511.out 0; have hfz66_1 := blk_frozen BK511.out 1) | (go_at_call 31; (with_reducible refine (impl_IsFree.calls k t504 _ _ t505 _ _ t508 false _ ?side1 ?side2 ?side3 ?side4 A33.out).mono ?_); (case side1 => exact mC (Kd.S_reads' HO507.out).2.2); (case side2 => exact (Kd.S_reads' HO507.out).2.1); (case side3 => exact mC (Kd.R_reads' HO510.out).2.2); (case side4 => exact (Kd.R_reads' HO510.out).2.1); rintro e w67 ⟨rfl, hb⟩; have n0_ := Aside0.mk (Kd.S_below (mS HO507.out) hb); have n1_ := Aside0.mk (Kd.R_below (mR HO510.out) hb); have n2_ := Aside0.mk (blk_below (g := gb511) (o := .cells #[.int .i64 t504, .slice Ao21 t505.length co21] 28 (0, 0)) ((mK (BK511.out))) hb); have n3_ := Aside0.mk (below_step mG hb); clear HO507 HO510 BK511 HB; have HO507 := n0_; have HO510 := n1_; have BK511 := n2_; have HB := n3_; clear n0_ n1_ n2_ n3_; (try clear hb)))
    go_meet
    case rel => exact ⟨_, (true), mF, H', ⟨by first | omega | exact Nat.le_refl _⟩, ⟨mR HO510.out⟩, ⟨mS HO507.out⟩, ⟨(mK (BK511.out))⟩, ⟨mG⟩⟩
   subst c34
   rw [if_pos rfl] at H
   replace H := Option.bind_eq_some_iff.mp H
   obtain ⟨t518, A350, H⟩ := H
   have A35 := Aside0.mk A350
   clear A350
   obtain rfl : t518 = true := Option.some.inj (A35.out.symm.trans A33.out)
   rw [if_pos rfl] at H
   replace H := Option.bind_eq_some_iff.mp H
   obtain ⟨t519, A370, H⟩ := H
   have A37 := Aside0.mk A370
   clear A370
   have H' := Aside0.mk H
   clear H
   have hcz38_0 : w26.cell? ⟨gb511, 0, none⟩ = some (.int .i64 t504) := (blk_cell BK511.out 0).trans rfl
   have hcz38_1 : w26.cell? ⟨gb511, 1, none⟩ = some (.slice Ao21 t505.length co21) := (blk_cell BK511.out 1).trans rfl
   have hfz38_0 := blk_frozen BK511.out 0
   have hfz38_1 := blk_frozen BK511.out 1
   go_wp2_with (first | ((with_reducible refine gate_callee (f := 33) rfl ?_); refine goesL_ (some 23) rfl rfl Try.func33 (by kernel_rfl) rfl #[.agg #[.int .i64 t504, .slice Ao21 t505.length co21], .slice Ao24 t508.length co24] rfl mA ?_; (with_reducible refine (impl_IsStable.calls k t504 _ _ t505 _ _ t508 true _ ?side1 ?side2 ?side3 ?side4 A27.out).mono ?_); (case side1 => exact mC (Kd.S_reads' HO507.out).2.2); (case side2 => exact (Kd.S_reads' HO507.out).2.1); (case side3 => exact mC (Kd.R_reads' HO510.out).2.2); (case side4 => exact (Kd.R_reads' HO510.out).2.1); rintro e w39 ⟨rfl, hb⟩; refine ⟨_, rfl, ?_⟩; have n0_ := Aside0.mk (Kd.S_below (mS HO507.out) hb); have n1_ := Aside0.mk (Kd.R_below (mR HO510.out) hb); have n2_ := Aside0.mk (blk_below (g := gb511) (o := .cells #[.int .i64 t504, .slice Ao21 t505.length co21] 28 (0, 0)) ((mK (BK511.out))) hb); have n3_ := Aside0.mk (below_step mG hb); clear HO507 HO510 BK511 HB; have HO507 := n0_; have HO510 := n1_; have BK511 := n2_; have HB := n3_; clear n0_ n1_ n2_ n3_; (try clear hb); have hcz40_0 : w39.cell? ⟨gb511, 0, none⟩ = some (.int .i64 t504) := (blk_cell BK511.out 0).trans rfl; have hcz40_1 : w39.cell? ⟨gb511, 1, none⟩ = some (.slice Ao21 t505.length co21) := (blk_cell BK511.out 1).trans rfl; have hfz40_0 := blk_frozen BK511.out 0; have hfz40_1 := blk_frozen BK511.out 1) | (go_at_call 37; (with_reducible refine (impl_IsAdmissible.calls k t504 _ _ t505 _ _ t508 true _ ?side1 ?side2 ?side3 ?side4 A29.out).mono ?_); (case side1 => exact mC (Kd.S_reads' HO507.out).2.2); (case side2 => exact (Kd.S_reads' HO507.out).2.1); (case side3 => exact mC (Kd.R_reads' HO510.out).2.2); (case side4 => exact (Kd.R_reads' HO510.out).2.1); rintro e w41 ⟨rfl, hb⟩; have n0_ := Aside0.mk (Kd.S_below (mS HO507.out) hb); have n1_ := Aside0.mk (Kd.R_below (mR HO510.out) hb); have n2_ := Aside0.mk (blk_below (g := gb511) (o := .cells #[.int .i64 t504, .slice Ao21 t505.length co21] 28 (0, 0)) ((mK (BK511.out))) hb); have n3_ := Aside0.mk (below_step mG hb); clear HO507 HO510 BK511 HB; have HO507 := n0_; have HO510 := n1_; have BK511 := n2_; have HB := n3_; clear n0_ n1_ n2_ n3_; (try clear hb); have hcz42_0 : w41.cell? ⟨gb511, 0, none⟩ = some (.int .i64 t504) := (blk_cell BK511.out 0).trans rfl; have hcz42_1 : w41.cell? ⟨gb511, 1, none⟩ = some (.slice Ao21 t505.length co21) := (blk_cell BK511.out 1).trans rfl; have hfz42_0 := blk_frozen BK511.out 0; have hfz42_1 := blk_frozen BK511.out 1) | (go_at_call 37; (with_reducible refine (impl_IsAdmissible.calls k t504 _ _ t505 _ _ t508 true _ ?side1 ?side2 ?side3 ?side4 A31.out).mono ?_); (case side1 => exact mC (Kd.S_reads' HO507.out).2.2); (case side2 => exact (Kd.S_reads' HO507.out).2.1); (case side3 => exact mC (Kd.R_reads' HO510.out).2.2); (case side4 => exact (Kd.R_reads' HO510.out).2.1); rintro e w43 ⟨rfl, hb⟩; have n0_ := Aside0.mk (Kd.S_below (mS HO507.out) hb); have n1_ := Aside0.mk (Kd.R_below (mR HO510.out) hb); have n2_ := Aside0.mk (blk_below (g := gb511) (o := .cells #[.int .i64 t504, .slice Ao21 t505.length co21] 28 (0, 0)) ((mK (BK511.out))) hb); have n3_ := Aside0.mk (below_step mG hb); clear HO507 HO510 BK511 HB; have HO507 := n0_; have HO510 := n1_; have BK511 := n2_; have HB := n3_; clear n0_ n1_ n2_ n3_; (try clear hb); have hcz44_0 : w43.cell? ⟨gb511, 0, none⟩ = some (.int .i64 t504) := (blk_cell BK511.out 0).trans rfl; have hcz44_1 : w43.cell? ⟨gb511, 1, none⟩ = some (.slice Ao21 t505.length co21) := (blk_cell BK511.out 1).trans rfl; have hfz44_0 := blk_frozen BK511.out 0; have hfz44_1 := blk_frozen BK511.out 1) | (go_at_call 31; (with_reducible refine (impl_IsFree.calls k t504 _ _ t505 _ _ t508 true _ ?side1 ?side2 ?side3 ?side4 A33.out).mono ?_); (case side1 => exact mC (Kd.S_reads' HO507.out).2.2); (case side2 => exact (Kd.S_reads' HO507.out).2.1); (case side3 => exact mC (Kd.R_reads' HO510.out).2.2); (case side4 => exact (Kd.R_reads' HO510.out).2.1); rintro e w45 ⟨rfl, hb⟩; have n0_ := Aside0.mk (Kd.S_below (mS HO507.out) hb); have n1_ := Aside0.mk (Kd.R_below (mR HO510.out) hb); have n2_ := Aside0.mk (blk_below (g := gb511) (o := .cells #[.int .i64 t504, .slice Ao21 t505.length co21] 28 (0, 0)) ((mK (BK511.out))) hb); have n3_ := Aside0.mk (below_step mG hb); clear HO507 HO510 BK511 HB; have HO507 := n0_; have HO510 := n1_; have BK511 := n2_; have HB := n3_; clear n0_ n1_ n2_ n3_; (try clear hb); have hcz46_0 : w45.cell? ⟨gb511, 0, none⟩ = some (.int .i64 t504) := (blk_cell BK511.out 0).trans rfl; have hcz46_1 : w45.cell? ⟨gb511, 1, none⟩ = some (.slice Ao21 t505.length co21) := (blk_cell BK511.out 1).trans rfl; have hfz46_0 := blk_frozen BK511.out 0; have hfz46_1 := blk_frozen BK511.out 1) | (go_at_call 31; (with_reducible refine (impl_IsFree.calls k t504 _ _ t505 _ _ t508 true _ ?side1 ?side2 ?side3 ?side4 A35.out).mono ?_); (case side1 => exact mC (Kd.S_reads' HO507.out).2.2); (case side2 => exact (Kd.S_reads' HO507.out).2.1); (case side3 => exact mC (Kd.R_reads' HO510.out).2.2); (case side4 => exact (Kd.R_reads' HO510.out).2.1); rintro e w47 ⟨rfl, hb⟩; have n0_ := Aside0.mk (Kd.S_below (mS HO507.out) hb); have n1_ := Aside0.mk (Kd.R_below (mR HO510.out) hb); have n2_ := Aside0.mk (blk_below (g := gb511) (o := .cells #[.int .i64 t504, .slice Ao21 t505.length co21] 28 (0, 0)) ((mK (BK511.out))) hb); have n3_ := Aside0.mk (below_step mG hb); clear HO507 HO510 BK511 HB; have HO507 := n0_; have HO510 := n1_; have BK511 := n2_; have HB := n3_; clear n0_ n1_ n2_ n3_; (try clear hb); have hcz48_0 : w47.cell? ⟨gb511, 0, none⟩ = some (.int .i64 t504) := (blk_cell BK511.out 0).trans rfl; have hcz48_1 : w47.cell? ⟨gb511, 1, none⟩ = some (.slice Ao21 t505.length co21) := (blk_cell BK511.out 1).trans rfl; have hfz48_0 := blk_frozen BK511.out 0; have hfz48_1 := blk_frozen BK511.out 1) | (go_at_call 57; (with_reducible refine (impl_IsSet.calls k t504 _ _ t505 _ _ t508 t519 _ ?side1 ?side2 ?side3 ?side4 A37.out).mono ?_); (case side1 => exact mC (Kd.S_reads' HO507.out).2.2); (case side2 => exact (Kd.S_reads' HO507.out).2.1); (case side3 => exact mC (Kd.R_reads' HO510.out).2.2); (case side4 => exact (Kd.R_reads' HO510.out).2.1); rintro e w49 ⟨rfl, hb⟩; have n0_ := Aside0.mk (Kd.S_below (mS HO507.out) hb); have n1_ := Aside0.mk (Kd.R_below (mR HO510.out) hb); have n2_ := Aside0.mk (blk_below (g := gb511) (o := .cells #[.int .i64 t504, .slice Ao21 t505.length co21] 28 (0, 0)) ((mK (BK511.out))) hb); have n3_ := Aside0.mk (below_step mG hb); clear HO507 HO510 BK511 HB; have HO507 := n0_; have HO510 := n1_; have BK511 := n2_; have HB := n3_; clear n0_ n1_ n2_ n3_; (try clear hb)))
   go_meet
   case rel => exact ⟨_, (!t519), mF, H', ⟨by first | omega | exact Nat.le_refl _⟩, ⟨mR HO510.out⟩, ⟨mS HO507.out⟩, ⟨(mK (BK511.out))⟩, ⟨mG⟩⟩
  replace c28 := Bool.eq_false_iff.mpr c28
  subst c28
  rw [if_neg (show ¬ (false = true) by decide)] at H
  replace H := Option.bind_eq_some_iff.mp H
  obtain ⟨t522, A930, H⟩ := H
  have A93 := Aside0.mk A930
  clear A930
  by_cases c94 : t522 = true
  rotate_left
  ·
   replace c94 := Bool.eq_false_iff.mpr c94
   subst c94
   rw [if_neg (show ¬ (false = true) by decide)] at H
   replace H := Option.bind_eq_some_iff.mp H
   obtain ⟨t526, A1240, H⟩ := H
   have A124 := Aside0.mk A1240
   clear A1240
   by_cases c125 : t526 = true
   rotate_left
   ·
    replace c125 := Bool.eq_false_iff.mpr c125
    subst c125
    rw [if_neg (show ¬ (false = true) by decide)] at H
    have H' := Aside0.mk H
    clear H
    have hcz135_0 : w26.cell? ⟨gb511, 0, none⟩ = some (.int .i64 t504) := (blk_cell BK511.out 0).trans rfl
    have hcz135_1 : w26.cell? ⟨gb511, 1, none⟩ = some (.slice Ao21 t505.length co21) := (blk_cell BK511.out 1).trans rfl
    have hfz135_0 := blk_frozen BK511.out 0
    have hfz135_1 := blk_frozen BK511.out 1
    go_wp2_with (first | ((with_reducible refine gate_callee (f := 33) rfl ?_); refine goesL_ (some 23) rfl rfl Try.func33 (by kernel_rfl) rfl #[.agg #[.int .i64 t504, .slice Ao21 t505.length co21], .slice Ao24 t508.length co24] rfl mA ?_; (with_reducible refine (impl_IsStable.calls k t504 _ _ t505 _ _ t508 false _ ?side1 ?side2 ?side3 ?side4 A27.out).mono ?_); (case side1 => exact mC (Kd.S_reads' HO507.out).2.2); (case side2 => exact (Kd.S_reads' HO507.out).2.1); (case side3 => exact mC (Kd.R_reads' HO510.out).2.2); (case side4 => exact (Kd.R_reads' HO510.out).2.1); rintro e w136 ⟨rfl, hb⟩; refine ⟨_, rfl, ?_⟩; have n0_ := Aside0.mk (Kd.S_below (mS HO507.out) hb); have n1_ := Aside0.mk (Kd.R_below (mR HO510.out) hb); have n2_ := Aside0.mk (blk_below (g := gb511) (o := .cells #[.int .i64 t504, .slice Ao21 t505.length co21] 28 (0, 0)) ((mK (BK511.out))) hb); have n3_ := Aside0.mk (below_step mG hb); clear HO507 HO510 BK511 HB; have HO507 := n0_; have HO510 := n1_; have BK511 := n2_; have HB := n3_; clear n0_ n1_ n2_ n3_; (try clear hb); have hcz137_0 : w136.cell? ⟨gb511, 0, none⟩ = some (.int .i64 t504) := (blk_cell BK511.out 0).trans rfl; have hcz137_1 : w136.cell? ⟨gb511, 1, none⟩ = some (.slice Ao21 t505.length co21) := (blk_cell BK511.out 1).trans rfl; have hfz137_0 := blk_frozen BK511.out 0; have hfz137_1 := blk_frozen BK511.out 1) | (go_at_call 37; (with_reducible refine (impl_IsAdmissible.calls k t504 _ _ t505 _ _ t508 false _ ?side1 ?side2 ?side3 ?side4 A93.out).mono ?_); (case side1 => exact mC (Kd.S_reads' HO507.out).2.2); (case side2 => exact (Kd.S_reads' HO507.out).2.1); (case side3 => exact mC (Kd.R_reads' HO510.out).2.2); (case side4 => exact (Kd.R_reads' HO510.out).2.1); rintro e w138 ⟨rfl, hb⟩; have n0_ := Aside0.mk (Kd.S_below (mS HO507.out) hb); have n1_ := Aside0.mk (Kd.R_below (mR HO510.out) hb); have n2_ := Aside0.mk (blk_below (g := gb511) (o := .cells #[.int .i64 t504, .slice Ao21 t505.length co21] 28 (0, 0)) ((mK (BK511.out))) hb); have n3_ := Aside0.mk (below_step mG hb); clear HO507 HO510 BK511 HB; have HO507 := n0_; have HO510 := n1_; have BK511 := n2_; have HB := n3_; clear n0_ n1_ n2_ n3_; (try clear hb); have hcz139_0 : w138.cell? ⟨gb511, 0, none⟩ = some (.int .i64 t504) := (blk_cell BK511.out 0).trans rfl; have hcz139_1 : w138.cell? ⟨gb511, 1, none⟩ = some (.slice Ao21 t505.length co21) := (blk_cell BK511.out 1).trans rfl; have hfz139_0 := blk_frozen BK511.out 0; have hfz139_1 := blk_frozen BK511.out 1) | (go_at_call 31; (with_reducible refine (impl_IsFree.calls k t504 _ _ t505 _ _ t508 false _ ?side1 ?side2 ?side3 ?side4 A124.out).mono ?_); (case side1 => exact mC (Kd.S_reads' HO507.out).2.2); (case side2 => exact (Kd.S_reads' HO507.out).2.1); (case side3 => exact mC (Kd.R_reads' HO510.out).2.2); (case side4 => exact (Kd.R_reads' HO510.out).2.1); rintro e w140 ⟨rfl, hb⟩; have n0_ := Aside0.mk (Kd.S_below (mS HO507.out) hb); have n1_ := Aside0.mk (Kd.R_below (mR HO510.out) hb); have n2_ := Aside0.mk (blk_below (g := gb511) (o := .cells #[.int .i64 t504, .slice Ao21 t505.length co21] 28 (0, 0)) ((mK (BK511.out))) hb); have n3_ := Aside0.mk (below_step mG hb); clear HO507 HO510 BK511 HB; have HO507 := n0_; have HO510 := n1_; have BK511 := n2_; have HB := n3_; clear n0_ n1_ n2_ n3_; (try clear hb)))
    go_meet
    case rel => exact ⟨_, (false), mF, H', ⟨by first | omega | exact Nat.le_refl _⟩, ⟨mR HO510.out⟩, ⟨mS HO507.out⟩, ⟨(mK (BK511.out))⟩, ⟨mG⟩⟩
   subst c125
   rw [if_pos rfl] at H
   replace H := Option.bind_eq_some_iff.mp H
   obtain ⟨t527, A1260, H⟩ := H
   have A126 := Aside0.mk A1260
   clear A1260
   have H' := Aside0.mk H
   clear H
   have hcz127_0 : w26.cell? ⟨gb511, 0, none⟩ = some (.int .i64 t504) := (blk_cell BK511.out 0).trans rfl
   have hcz127_1 : w26.cell? ⟨gb511, 1, none⟩ = some (.slice Ao21 t505.length co21) := (blk_cell BK511.out 1).trans rfl
   have hfz127_0 := blk_frozen BK511.out 0
   have hfz127_1 := blk_frozen BK511.out 1
   go_wp2_with (first | ((with_reducible refine gate_callee (f := 33) rfl ?_); refine goesL_ (some 23) rfl rfl Try.func33 (by kernel_rfl) rfl #[.agg #[.int .i64 t504, .slice Ao21 t505.length co21], .slice Ao24 t508.length co24] rfl mA ?_; (with_reducible refine (impl_IsStable.calls k t504 _ _ t505 _ _ t508 false _ ?side1 ?side2 ?side3 ?side4 A27.out).mono ?_); (case side1 => exact mC (Kd.S_reads' HO507.out).2.2); (case side2 => exact (Kd.S_reads' HO507.out).2.1); (case side3 => exact mC (Kd.R_reads' HO510.out).2.2); (case side4 => exact (Kd.R_reads' HO510.out).2.1); rintro e w128 ⟨rfl, hb⟩; refine ⟨_, rfl, ?_⟩; have n0_ := Aside0.mk (Kd.S_below (mS HO507.out) hb); have n1_ := Aside0.mk (Kd.R_below (mR HO510.out) hb); have n2_ := Aside0.mk (blk_below (g := gb511) (o := .cells #[.int .i64 t504, .slice Ao21 t505.length co21] 28 (0, 0)) ((mK (BK511.out))) hb); have n3_ := Aside0.mk (below_step mG hb); clear HO507 HO510 BK511 HB; have HO507 := n0_; have HO510 := n1_; have BK511 := n2_; have HB := n3_; clear n0_ n1_ n2_ n3_; (try clear hb); have hcz129_0 : w128.cell? ⟨gb511, 0, none⟩ = some (.int .i64 t504) := (blk_cell BK511.out 0).trans rfl; have hcz129_1 : w128.cell? ⟨gb511, 1, none⟩ = some (.slice Ao21 t505.length co21) := (blk_cell BK511.out 1).trans rfl; have hfz129_0 := blk_frozen BK511.out 0; have hfz129_1 := blk_frozen BK511.out 1) | (go_at_call 37; (with_reducible refine (impl_IsAdmissible.calls k t504 _ _ t505 _ _ t508 false _ ?side1 ?side2 ?side3 ?side4 A93.out).mono ?_); (case side1 => exact mC (Kd.S_reads' HO507.out).2.2); (case side2 => exact (Kd.S_reads' HO507.out).2.1); (case side3 => exact mC (Kd.R_reads' HO510.out).2.2); (case side4 => exact (Kd.R_reads' HO510.out).2.1); rintro e w130 ⟨rfl, hb⟩; have n0_ := Aside0.mk (Kd.S_below (mS HO507.out) hb); have n1_ := Aside0.mk (Kd.R_below (mR HO510.out) hb); have n2_ := Aside0.mk (blk_below (g := gb511) (o := .cells #[.int .i64 t504, .slice Ao21 t505.length co21] 28 (0, 0)) ((mK (BK511.out))) hb); have n3_ := Aside0.mk (below_step mG hb); clear HO507 HO510 BK511 HB; have HO507 := n0_; have HO510 := n1_; have BK511 := n2_; have HB := n3_; clear n0_ n1_ n2_ n3_; (try clear hb); have hcz131_0 : w130.cell? ⟨gb511, 0, none⟩ = some (.int .i64 t504) := (blk_cell BK511.out 0).trans rfl; have hcz131_1 : w130.cell? ⟨gb511, 1, none⟩ = some (.slice Ao21 t505.length co21) := (blk_cell BK511.out 1).trans rfl; have hfz131_0 := blk_frozen BK511.out 0; have hfz131_1 := blk_frozen BK511.out 1) | (go_at_call 31; (with_reducible refine (impl_IsFree.calls k t504 _ _ t505 _ _ t508 true _ ?side1 ?side2 ?side3 ?side4 A124.out).mono ?_); (case side1 => exact mC (Kd.S_reads' HO507.out).2.2); (case side2 => exact (Kd.S_reads' HO507.out).2.1); (case side3 => exact mC (Kd.R_reads' HO510.out).2.2); (case side4 => exact (Kd.R_reads' HO510.out).2.1); rintro e w132 ⟨rfl, hb⟩; have n0_ := Aside0.mk (Kd.S_below (mS HO507.out) hb); have n1_ := Aside0.mk (Kd.R_below (mR HO510.out) hb); have n2_ := Aside0.mk (blk_below (g := gb511) (o := .cells #[.int .i64 t504, .slice Ao21 t505.length co21] 28 (0, 0)) ((mK (BK511.out))) hb); have n3_ := Aside0.mk (below_step mG hb); clear HO507 HO510 BK511 HB; have HO507 := n0_; have HO510 := n1_; have BK511 := n2_; have HB := n3_; clear n0_ n1_ n2_ n3_; (try clear hb); have hcz133_0 : w132.cell? ⟨gb511, 0, none⟩ = some (.int .i64 t504) := (blk_cell BK511.out 0).trans rfl; have hcz133_1 : w132.cell? ⟨gb511, 1, none⟩ = some (.slice Ao21 t505.length co21) := (blk_cell BK511.out 1).trans rfl; have hfz133_0 := blk_frozen BK511.out 0; have hfz133_1 := blk_frozen BK511.out 1) | (go_at_call 57; (with_reducible refine (impl_IsSet.calls k t504 _ _ t505 _ _ t508 t527 _ ?side1 ?side2 ?side3 ?side4 A126.out).mono ?_); (case side1 => exact mC (Kd.S_reads' HO507.out).2.2); (case side2 => exact (Kd.S_reads' HO507.out).2.1); (case side3 => exact mC (Kd.R_reads' HO510.out).2.2); (case side4 => exact (Kd.R_reads' HO510.out).2.1); rintro e w134 ⟨rfl, hb⟩; have n0_ := Aside0.mk (Kd.S_below (mS HO507.out) hb); have n1_ := Aside0.mk (Kd.R_below (mR HO510.out) hb); have n2_ := Aside0.mk (blk_below (g := gb511) (o := .cells #[.int .i64 t504, .slice Ao21 t505.length co21] 28 (0, 0)) ((mK (BK511.out))) hb); have n3_ := Aside0.mk (below_step mG hb); clear HO507 HO510 BK511 HB; have HO507 := n0_; have HO510 := n1_; have BK511 := n2_; have HB := n3_; clear n0_ n1_ n2_ n3_; (try clear hb)))
   go_meet
   case rel => exact ⟨_, (!t527), mF, H', ⟨by first | omega | exact Nat.le_refl _⟩, ⟨mR HO510.out⟩, ⟨mS HO507.out⟩, ⟨(mK (BK511.out))⟩, ⟨mG⟩⟩
  subst c94
  rw [if_pos rfl] at H
  replace H := Option.bind_eq_some_iff.mp H
  obtain ⟨t523, A950, H⟩ := H
  have A95 := Aside0.mk A950
  clear A950
  by_cases c96 : t523 = true
  rotate_left
  ·
   replace c96 := Bool.eq_false_iff.mpr c96
   subst c96
   rw [if_neg (show ¬ (false = true) by decide)] at H
   have H' := Aside0.mk H
   clear H
   have hcz118_0 : w26.cell? ⟨gb511, 0, none⟩ = some (.int .i64 t504) := (blk_cell BK511.out 0).trans rfl
   have hcz118_1 : w26.cell? ⟨gb511, 1, none⟩ = some (.slice Ao21 t505.length co21) := (blk_cell BK511.out 1).trans rfl
   have hfz118_0 := blk_frozen BK511.out 0
   have hfz118_1 := blk_frozen BK511.out 1
   go_wp2_with (first | ((with_reducible refine gate_callee (f := 33) rfl ?_); refine goesL_ (some 23) rfl rfl Try.func33 (by kernel_rfl) rfl #[.agg #[.int .i64 t504, .slice Ao21 t505.length co21], .slice Ao24 t508.length co24] rfl mA ?_; (with_reducible refine (impl_IsStable.calls k t504 _ _ t505 _ _ t508 false _ ?side1 ?side2 ?side3 ?side4 A27.out).mono ?_); (case side1 => exact mC (Kd.S_reads' HO507.out).2.2); (case side2 => exact (Kd.S_reads' HO507.out).2.1); (case side3 => exact mC (Kd.R_reads' HO510.out).2.2); (case side4 => exact (Kd.R_reads' HO510.out).2.1); rintro e w119 ⟨rfl, hb⟩; refine ⟨_, rfl, ?_⟩; have n0_ := Aside0.mk (Kd.S_below (mS HO507.out) hb); have n1_ := Aside0.mk (Kd.R_below (mR HO510.out) hb); have n2_ := Aside0.mk (blk_below (g := gb511) (o := .cells #[.int .i64 t504, .slice Ao21 t505.length co21] 28 (0, 0)) ((mK (BK511.out))) hb); have n3_ := Aside0.mk (below_step mG hb); clear HO507 HO510 BK511 HB; have HO507 := n0_; have HO510 := n1_; have BK511 := n2_; have HB := n3_; clear n0_ n1_ n2_ n3_; (try clear hb); have hcz120_0 : w119.cell? ⟨gb511, 0, none⟩ = some (.int .i64 t504) := (blk_cell BK511.out 0).trans rfl; have hcz120_1 : w119.cell? ⟨gb511, 1, none⟩ = some (.slice Ao21 t505.length co21) := (blk_cell BK511.out 1).trans rfl; have hfz120_0 := blk_frozen BK511.out 0; have hfz120_1 := blk_frozen BK511.out 1) | (go_at_call 37; (with_reducible refine (impl_IsAdmissible.calls k t504 _ _ t505 _ _ t508 true _ ?side1 ?side2 ?side3 ?side4 A93.out).mono ?_); (case side1 => exact mC (Kd.S_reads' HO507.out).2.2); (case side2 => exact (Kd.S_reads' HO507.out).2.1); (case side3 => exact mC (Kd.R_reads' HO510.out).2.2); (case side4 => exact (Kd.R_reads' HO510.out).2.1); rintro e w121 ⟨rfl, hb⟩; have n0_ := Aside0.mk (Kd.S_below (mS HO507.out) hb); have n1_ := Aside0.mk (Kd.R_below (mR HO510.out) hb); have n2_ := Aside0.mk (blk_below (g := gb511) (o := .cells #[.int .i64 t504, .slice Ao21 t505.length co21] 28 (0, 0)) ((mK (BK511.out))) hb); have n3_ := Aside0.mk (below_step mG hb); clear HO507 HO510 BK511 HB; have HO507 := n0_; have HO510 := n1_; have BK511 := n2_; have HB := n3_; clear n0_ n1_ n2_ n3_; (try clear hb); have hcz122_0 : w121.cell? ⟨gb511, 0, none⟩ = some (.int .i64 t504) := (blk_cell BK511.out 0).trans rfl; have hcz122_1 : w121.cell? ⟨gb511, 1, none⟩ = some (.slice Ao21 t505.length co21) := (blk_cell BK511.out 1).trans rfl; have hfz122_0 := blk_frozen BK511.out 0; have hfz122_1 := blk_frozen BK511.out 1) | (go_at_call 31; (with_reducible refine (impl_IsFree.calls k t504 _ _ t505 _ _ t508 false _ ?side1 ?side2 ?side3 ?side4 A95.out).mono ?_); (case side1 => exact mC (Kd.S_reads' HO507.out).2.2); (case side2 => exact (Kd.S_reads' HO507.out).2.1); (case side3 => exact mC (Kd.R_reads' HO510.out).2.2); (case side4 => exact (Kd.R_reads' HO510.out).2.1); rintro e w123 ⟨rfl, hb⟩; have n0_ := Aside0.mk (Kd.S_below (mS HO507.out) hb); have n1_ := Aside0.mk (Kd.R_below (mR HO510.out) hb); have n2_ := Aside0.mk (blk_below (g := gb511) (o := .cells #[.int .i64 t504, .slice Ao21 t505.length co21] 28 (0, 0)) ((mK (BK511.out))) hb); have n3_ := Aside0.mk (below_step mG hb); clear HO507 HO510 BK511 HB; have HO507 := n0_; have HO510 := n1_; have BK511 := n2_; have HB := n3_; clear n0_ n1_ n2_ n3_; (try clear hb)))
   go_meet
   case rel => exact ⟨_, (true), mF, H', ⟨by first | omega | exact Nat.le_refl _⟩, ⟨mR HO510.out⟩, ⟨mS HO507.out⟩, ⟨(mK (BK511.out))⟩, ⟨mG⟩⟩
  subst c96
  rw [if_pos rfl] at H
  replace H := Option.bind_eq_some_iff.mp H
  obtain ⟨t524, A970, H⟩ := H
  have A97 := Aside0.mk A970
  clear A970
  obtain rfl : t524 = true := Option.some.inj (A97.out.symm.trans A95.out)
  rw [if_pos rfl] at H
  replace H := Option.bind_eq_some_iff.mp H
  obtain ⟨t525, A990, H⟩ := H
  have A99 := Aside0.mk A990
  clear A990
  have H' := Aside0.mk H
  clear H
  have hcz100_0 : w26.cell? ⟨gb511, 0, none⟩ = some (.int .i64 t504) := (blk_cell BK511.out 0).trans rfl
  have hcz100_1 : w26.cell? ⟨gb511, 1, none⟩ = some (.slice Ao21 t505.length co21) := (blk_cell BK511.out 1).trans rfl
  have hfz100_0 := blk_frozen BK511.out 0
  have hfz100_1 := blk_frozen BK511.out 1
  go_wp2_with (first | ((with_reducible refine gate_callee (f := 33) rfl ?_); refine goesL_ (some 23) rfl rfl Try.func33 (by kernel_rfl) rfl #[.agg #[.int .i64 t504, .slice Ao21 t505.length co21], .slice Ao24 t508.length co24] rfl mA ?_; (with_reducible refine (impl_IsStable.calls k t504 _ _ t505 _ _ t508 false _ ?side1 ?side2 ?side3 ?side4 A27.out).mono ?_); (case side1 => exact mC (Kd.S_reads' HO507.out).2.2); (case side2 => exact (Kd.S_reads' HO507.out).2.1); (case side3 => exact mC (Kd.R_reads' HO510.out).2.2); (case side4 => exact (Kd.R_reads' HO510.out).2.1); rintro e w101 ⟨rfl, hb⟩; refine ⟨_, rfl, ?_⟩; have n0_ := Aside0.mk (Kd.S_below (mS HO507.out) hb); have n1_ := Aside0.mk (Kd.R_below (mR HO510.out) hb); have n2_ := Aside0.mk (blk_below (g := gb511) (o := .cells #[.int .i64 t504, .slice Ao21 t505.length co21] 28 (0, 0)) ((mK (BK511.out))) hb); have n3_ := Aside0.mk (below_step mG hb); clear HO507 HO510 BK511 HB; have HO507 := n0_; have HO510 := n1_; have BK511 := n2_; have HB := n3_; clear n0_ n1_ n2_ n3_; (try clear hb); have hcz102_0 : w101.cell? ⟨gb511, 0, none⟩ = some (.int .i64 t504) := (blk_cell BK511.out 0).trans rfl; have hcz102_1 : w101.cell? ⟨gb511, 1, none⟩ = some (.slice Ao21 t505.length co21) := (blk_cell BK511.out 1).trans rfl; have hfz102_0 := blk_frozen BK511.out 0; have hfz102_1 := blk_frozen BK511.out 1) | (go_at_call 37; (with_reducible refine (impl_IsAdmissible.calls k t504 _ _ t505 _ _ t508 true _ ?side1 ?side2 ?side3 ?side4 A93.out).mono ?_); (case side1 => exact mC (Kd.S_reads' HO507.out).2.2); (case side2 => exact (Kd.S_reads' HO507.out).2.1); (case side3 => exact mC (Kd.R_reads' HO510.out).2.2); (case side4 => exact (Kd.R_reads' HO510.out).2.1); rintro e w103 ⟨rfl, hb⟩; have n0_ := Aside0.mk (Kd.S_below (mS HO507.out) hb); have n1_ := Aside0.mk (Kd.R_below (mR HO510.out) hb); have n2_ := Aside0.mk (blk_below (g := gb511) (o := .cells #[.int .i64 t504, .slice Ao21 t505.length co21] 28 (0, 0)) ((mK (BK511.out))) hb); have n3_ := Aside0.mk (below_step mG hb); clear HO507 HO510 BK511 HB; have HO507 := n0_; have HO510 := n1_; have BK511 := n2_; have HB := n3_; clear n0_ n1_ n2_ n3_; (try clear hb); have hcz104_0 : w103.cell? ⟨gb511, 0, none⟩ = some (.int .i64 t504) := (blk_cell BK511.out 0).trans rfl; have hcz104_1 : w103.cell? ⟨gb511, 1, none⟩ = some (.slice Ao21 t505.length co21) := (blk_cell BK511.out 1).trans rfl; have hfz104_0 := blk_frozen BK511.out 0; have hfz104_1 := blk_frozen BK511.out 1) | (go_at_call 31; (with_reducible refine (impl_IsFree.calls k t504 _ _ t505 _ _ t508 true _ ?side1 ?side2 ?side3 ?side4 A95.out).mono ?_); (case side1 => exact mC (Kd.S_reads' HO507.out).2.2); (case side2 => exact (Kd.S_reads' HO507.out).2.1); (case side3 => exact mC (Kd.R_reads' HO510.out).2.2); (case side4 => exact (Kd.R_reads' HO510.out).2.1); rintro e w105 ⟨rfl, hb⟩; have n0_ := Aside0.mk (Kd.S_below (mS HO507.out) hb); have n1_ := Aside0.mk (Kd.R_below (mR HO510.out) hb); have n2_ := Aside0.mk (blk_below (g := gb511) (o := .cells #[.int .i64 t504, .slice Ao21 t505.length co21] 28 (0, 0)) ((mK (BK511.out))) hb); have n3_ := Aside0.mk (below_step mG hb); clear HO507 HO510 BK511 HB; have HO507 := n0_; have HO510 := n1_; have BK511 := n2_; have HB := n3_; clear n0_ n1_ n2_ n3_; (try clear hb); have hcz106_0 : w105.cell? ⟨gb511, 0, none⟩ = some (.int .i64 t504) := (blk_cell BK511.out 0).trans rfl; have hcz106_1 : w105.cell? ⟨gb511, 1, none⟩ = some (.slice Ao21 t505.length co21) := (blk_cell BK511.out 1).trans rfl; have hfz106_0 := blk_frozen BK511.out 0; have hfz106_1 := blk_frozen BK511.out 1) | (go_at_call 31; (with_reducible refine (impl_IsFree.calls k t504 _ _ t505 _ _ t508 true _ ?side1 ?side2 ?side3 ?side4 A97.out).mono ?_); (case side1 => exact mC (Kd.S_reads' HO507.out).2.2); (case side2 => exact (Kd.S_reads' HO507.out).2.1); (case side3 => exact mC (Kd.R_reads' HO510.out).2.2); (case side4 => exact (Kd.R_reads' HO510.out).2.1); rintro e w107 ⟨rfl, hb⟩; have n0_ := Aside0.mk (Kd.S_below (mS HO507.out) hb); have n1_ := Aside0.mk (Kd.R_below (mR HO510.out) hb); have n2_ := Aside0.mk (blk_below (g := gb511) (o := .cells #[.int .i64 t504, .slice Ao21 t505.length co21] 28 (0, 0)) ((mK (BK511.out))) hb); have n3_ := Aside0.mk (below_step mG hb); clear HO507 HO510 BK511 HB; have HO507 := n0_; have HO510 := n1_; have BK511 := n2_; have HB := n3_; clear n0_ n1_ n2_ n3_; (try clear hb); have hcz108_0 : w107.cell? ⟨gb511, 0, none⟩ = some (.int .i64 t504) := (blk_cell BK511.out 0).trans rfl; have hcz108_1 : w107.cell? ⟨gb511, 1, none⟩ = some (.slice Ao21 t505.length co21) := (blk_cell BK511.out 1).trans rfl; have hfz108_0 := blk_frozen BK511.out 0; have hfz108_1 := blk_frozen BK511.out 1) | (go_at_call 57; (with_reducible refine (impl_IsSet.calls k t504 _ _ t505 _ _ t508 t525 _ ?side1 ?side2 ?side3 ?side4 A99.out).mono ?_); (case side1 => exact mC (Kd.S_reads' HO507.out).2.2); (case side2 => exact (Kd.S_reads' HO507.out).2.1); (case side3 => exact mC (Kd.R_reads' HO510.out).2.2); (case side4 => exact (Kd.R_reads' HO510.out).2.1); rintro e w109 ⟨rfl, hb⟩; have n0_ := Aside0.mk (Kd.S_below (mS HO507.out) hb); have n1_ := Aside0.mk (Kd.R_below (mR HO510.out) hb); have n2_ := Aside0.mk (blk_below (g := gb511) (o := .cells #[.int .i64 t504, .slice Ao21 t505.length co21] 28 (0, 0)) ((mK (BK511.out))) hb); have n3_ := Aside0.mk (below_step mG hb); clear HO507 HO510 BK511 HB; have HO507 := n0_; have HO510 := n1_; have BK511 := n2_; have HB := n3_; clear n0_ n1_ n2_ n3_; (try clear hb)))
  go_meet
  case rel => exact ⟨_, (!t525), mF, H', ⟨by first | omega | exact Nat.le_refl _⟩, ⟨mR HO510.out⟩, ⟨mS HO507.out⟩, ⟨(mK (BK511.out))⟩, ⟨mG⟩⟩
 case rest =>
  clear HC17; (try clear c7b0); (try clear c7b1); (try clear c7b2); (try clear hcz100_0); (try clear hcz100_1); (try clear hcz102_0); (try clear hcz102_1); (try clear hcz104_0); (try clear hcz104_1); (try clear hcz106_0); (try clear hcz106_1); (try clear hcz108_0); (try clear hcz108_1); (try clear hcz10_0); (try clear hcz10_1); (try clear hcz110_0); (try clear hcz110_1); (try clear hcz112_0); (try clear hcz112_1); (try clear hcz114_0); (try clear hcz114_1); (try clear hcz116_0); (try clear hcz116_1); (try clear hcz118_0); (try clear hcz118_1); (try clear hcz120_0); (try clear hcz120_1); (try clear hcz122_0); (try clear hcz122_1); (try clear hcz127_0); (try clear hcz127_1); (try clear hcz129_0); (try clear hcz129_1); (try clear hcz131_0); (try clear hcz131_1); (try clear hcz133_0); (try clear hcz133_1); (try clear hcz135_0); (try clear hcz135_1); (try clear hcz137_0); (try clear hcz137_1); (try clear hcz139_0); (try clear hcz139_1); (try clear hcz20_0); (try clear hcz20_1); (try clear hcz38_0); (try clear hcz38_1); (try clear hcz40_0); (try clear hcz40_1); (try clear hcz42_0); (try clear hcz42_1); (try clear hcz44_0); (try clear hcz44_1); (try clear hcz46_0); (try clear hcz46_1); (try clear hcz48_0); (try clear hcz48_1); (try clear hcz50_0); (try clear hcz50_1); (try clear hcz52_0); (try clear hcz52_1); (try clear hcz54_0); (try clear hcz54_1); (try clear hcz56_0); (try clear hcz56_1); (try clear hcz58_0); (try clear hcz58_1); (try clear hcz60_0); (try clear hcz60_1); (try clear hcz62_0); (try clear hcz62_1); (try clear hcz64_0); (try clear hcz64_1); (try clear hcz66_0); (try clear hcz66_1); (try clear hcz71_0); (try clear hcz71_1); (try clear hcz73_0); (try clear hcz73_1); (try clear hcz75_0); (try clear hcz75_1); (try clear hcz77_0); (try clear hcz77_1); (try clear hcz79_0); (try clear hcz79_1); (try clear hcz81_0); (try clear hcz81_1); (try clear hcz83_0); (try clear hcz83_1); (try clear hcz85_0); (try clear hcz85_1); (try clear hcz87_0); (try clear hcz87_1); (try clear hcz89_0); (try clear hcz89_1); (try clear hcz91_0); (try clear hcz91_1); (try clear hfz100_0); (try clear hfz100_1); (try clear hfz102_0); (try clear hfz102_1); (try clear hfz104_0); (try clear hfz104_1); (try clear hfz106_0); (try clear hfz106_1); (try clear hfz108_0); (try clear hfz108_1); (try clear hfz10_0); (try clear hfz10_1); (try clear hfz110_0); (try clear hfz110_1); (try clear hfz112_0); (try clear hfz112_1); (try clear hfz114_0); (try clear hfz114_1); (try clear hfz116_0); (try clear hfz116_1); (try clear hfz118_0); (try clear hfz118_1); (try clear hfz120_0); (try clear hfz120_1); (try clear hfz122_0); (try clear hfz122_1); (try clear hfz127_0); (try clear hfz127_1); (try clear hfz129_0); (try clear hfz129_1); (try clear hfz131_0); (try clear hfz131_1); (try clear hfz133_0); (try clear hfz133_1); (try clear hfz135_0); (try clear hfz135_1); (try clear hfz137_0); (try clear hfz137_1); (try clear hfz139_0); (try clear hfz139_1); (try clear hfz20_0); (try clear hfz20_1); (try clear hfz38_0); (try clear hfz38_1); (try clear hfz40_0); (try clear hfz40_1); (try clear hfz42_0); (try clear hfz42_1); (try clear hfz44_0); (try clear hfz44_1); (try clear hfz46_0); (try clear hfz46_1); (try clear hfz48_0); (try clear hfz48_1); (try clear hfz50_0); (try clear hfz50_1); (try clear hfz52_0); (try clear hfz52_1); (try clear hfz54_0); (try clear hfz54_1); (try clear hfz56_0); (try clear hfz56_1); (try clear hfz58_0); (try clear hfz58_1); (try clear hfz60_0); (try clear hfz60_1); (try clear hfz62_0); (try clear hfz62_1); (try clear hfz64_0); (try clear hfz64_1); (try clear hfz66_0); (try clear hfz66_1); (try clear hfz71_0); (try clear hfz71_1); (try clear hfz73_0); (try clear hfz73_1); (try clear hfz75_0); (try clear hfz75_1); (try clear hfz77_0); (try clear hfz77_1); (try clear hfz79_0); (try clear hfz79_1); (try clear hfz81_0); (try clear hfz81_1); (try clear hfz83_0); (try clear hfz83_1); (try clear hfz85_0); (try clear hfz85_1); (try clear hfz87_0); (try clear hfz87_1); (try clear hfz89_0); (try clear hfz89_1); (try clear hfz91_0); (try clear hfz91_1)
  obtain ⟨kq, x51_16, rfl, HA, HJ16, HO_4, HO_512001, BK511, HB⟩ := hcut
  cases kq with
  | zero => exact absurd HA.out (by simp [laws_FnFree.j0])
  | succ kj16 =>
   have H := HA.out
   clear HA
   simp only [laws_FnFree.j0] at H
   by_cases c141 : x51_16 = true
   ·
    subst c141
    rw [if_pos rfl] at H
    obtain rfl := Option.some.inj H
    go_wp2
    go_ret
    exact ⟨mE, mG⟩
   replace c141 := Bool.eq_false_iff.mpr c141
   subst c141
   rw [if_neg (show ¬ (false = true) by decide)] at H
   replace H := Option.bind_eq_some_iff.mp H
   obtain ⟨t528, A1420, H⟩ := H
   have A142 := Aside0.mk A1420
   clear A1420
   have HC143 := Aside0.mk H
   clear H
   have hcz144_0 : wc.cell? ⟨gb511, 0, none⟩ = some (.int .i64 t504) := (blk_cell BK511.out 0).trans rfl
   have hcz144_1 : wc.cell? ⟨gb511, 1, none⟩ = some (.slice Ao21 t505.length co21) := (blk_cell BK511.out 1).trans rfl
   have hfz144_0 := blk_frozen BK511.out 0
   have hfz144_1 := blk_frozen BK511.out 1
   go_upto_region 9 with (first | ((with_reducible refine gate_callee (f := 39) rfl ?_); refine goesL_ (some 54) rfl rfl Try.func39 (by kernel_rfl) rfl #[.agg #[.int .i64 t504, .slice Ao21 t505.length co21], .slice Ao24 t508.length co24] rfl mA ?_; (with_reducible refine (impl_DefendedBy.calls kj16 t504 _ _ t505 _ _ t508 t528 _ ?side1 ?side2 ?side3 ?side4 A142.out).mono ?_); (case side1 => exact mC (Kd.S_reads' HO_512001.out).2.2); (case side2 => exact (Kd.S_reads' HO_512001.out).2.1); (case side3 => exact mC (Kd.R_reads' HO_4.out).2.2); (case side4 => exact (Kd.R_reads' HO_4.out).2.1); rintro e w145 ⟨v529, rfl, ho0, hb⟩; refine ⟨_, rfl, ?_⟩; have n0_ := Aside0.mk (Kd.R_elder' (mR HO_4.out) (Kd.R_base ho0) hb); have n1_ := Aside0.mk (Kd.S_elder' (mS HO_512001.out) (Kd.R_base ho0) hb); have n2_ := Aside0.mk (Kd.R_lower (Kd.R_new' ho0 (Kd.R_lt (mR HO_4.out))) (below_size mG)); have n3_ := Aside0.mk (blk_below (g := gb511) (o := .cells #[.int .i64 t504, .slice Ao21 t505.length co21] 28 (0, 0)) ((mK (BK511.out))) hb); have n4_ := Aside0.mk (below_step mG hb); clear HO_4 HO_512001 BK511 HB; have HO_4 := n0_; have HO_512001 := n1_; have HO530 := n2_; have BK511 := n3_; have HB := n4_; clear n0_ n1_ n2_ n3_ n4_; (try clear hb); (try clear ho0)))
   (try simp only [Act.put, List.setIfInBounds_toArray, List.set_cons_zero, List.set_cons_succ])
   go_cut [68] (fun v68 wc => ∃ (kq : Nat) (x68_142 : Bool), v68 = .bool x68_142 ∧ Aside0 (laws_FnFree.j1 kq t508 t528 x68_142 t504 t505 = some r) ∧ Aside0 (kq ≤ kj16) ∧ Aside0 (Kd.R (Kd.int .i64) 3 wc w.heap.size (fun k_ => some k_ ≠ (v529 : Value).ownBlock) (.slice Ao24 t508.length co24) t508) ∧ Aside0 (Kd.R (Kd.int .i64) 3 wc w.heap.size (fun k_ => some k_ ≠ ((.slice Ao24 t508.length co24) : Value).ownBlock) v529 t528) ∧ Aside0 (Kd.S (Kd.slice 3 (Kd.int .i64)) 25 wc w.heap.size (fun k_ => some k_ ≠ ((.slice Ao24 t508.length co24) : Value).ownBlock ∧ some k_ ≠ (v529 : Value).ownBlock) (.slice Ao21 t505.length co21) t505) ∧ Aside0 (wc.heap[gb511]? = some (.cells #[.int .i64 t504, (.slice Ao21 t505.length co21)] 28 (0, 0))) ∧ Aside0 (Below w.heap.size w wc))
   case first =>
    have H := HC143.out
    clear HC143
    replace H := Option.bind_eq_some_iff.mp H
    obtain ⟨t531, A1460, H⟩ := H
    have A146 := Aside0.mk A1460
    clear A1460
    by_cases c147 : t531 = true
    rotate_left
    ·
     replace c147 := Bool.eq_false_iff.mpr c147
     subst c147
     rw [if_neg (show ¬ (false = true) by decide)] at H
     have H' := Aside0.mk H
     clear H
     obtain ⟨Ao157, co157, eo157⟩ := Kd.R_slice HO530.out
     subst eo157
     go_wp2_with (first | ((with_reducible refine gate_callee (f := 55) rfl ?_); refine goesL_ (some 56) rfl rfl Try.func55 (by kernel_rfl) rfl #[.slice Ao157 t528.length co157] rfl mA ?_; (with_reducible refine (laws_ascends.calls kj16 _ _ t528 false _ ?side1 ?side2 A146.out).mono ?_); (case side1 => exact mC (Kd.R_reads' HO530.out).2.2); (case side2 => exact (Kd.R_reads' HO530.out).2.1); rintro e w' ⟨rfl, ⟨nd, rfl⟩⟩; refine ⟨_, rfl, ?_⟩))
     go_meet
     case rel => exact ⟨_, (true), mF, H', ⟨by have := HJ16.out; first | omega | exact Nat.le_refl _⟩, ⟨by (with_reducible repeat (first | apply Kd.R_alloc | apply Kd.R_drewN | apply Kd.R_drew)); exact Kd.R_mono HO_4.out (fun _ hk => hk.2)⟩, ⟨by (with_reducible repeat (first | apply Kd.R_alloc | apply Kd.R_drewN | apply Kd.R_drew)); exact Kd.R_mono HO530.out (fun _ hk => hk.2)⟩, ⟨mS HO_512001.out⟩, ⟨(mK (BK511.out))⟩, ⟨mG⟩⟩
    subst c147
    rw [if_pos rfl] at H
    replace H := Option.bind_eq_some_iff.mp H
    obtain ⟨t532, A1480, H⟩ := H
    have A148 := Aside0.mk A1480
    clear A1480
    by_cases c149 : t532 = true
    rotate_left
    ·
     replace c149 := Bool.eq_false_iff.mpr c149
     subst c149
     rw [if_neg (show ¬ (false = true) by decide)] at H
     have H' := Aside0.mk H
     clear H
     obtain ⟨Ao154, co154, eo154⟩ := Kd.R_slice HO530.out
     subst eo154
     go_wp2_with (first | ((with_reducible refine gate_callee (f := 55) rfl ?_); refine goesL_ (some 56) rfl rfl Try.func55 (by kernel_rfl) rfl #[.slice Ao154 t528.length co154] rfl mA ?_; (with_reducible refine (laws_ascends.calls kj16 _ _ t528 true _ ?side1 ?side2 A146.out).mono ?_); (case side1 => exact mC (Kd.R_reads' HO530.out).2.2); (case side2 => exact (Kd.R_reads' HO530.out).2.1); rintro e w' ⟨rfl, ⟨nd, rfl⟩⟩; refine ⟨_, rfl, ?_⟩; have hcz155_0 : w145.cell? ⟨gb511, 0, none⟩ = some (.int .i64 t504) := (blk_cell BK511.out 0).trans rfl; have hcz155_1 : w145.cell? ⟨gb511, 1, none⟩ = some (.slice Ao21 t505.length co21) := (blk_cell BK511.out 1).trans rfl; have hfz155_0 := blk_frozen BK511.out 0; have hfz155_1 := blk_frozen BK511.out 1) | (go_at_call 37; (with_reducible refine (impl_IsAdmissible.calls kj16 t504 _ _ t505 _ _ t508 false _ ?side1 ?side2 ?side3 ?side4 A148.out).mono ?_); (case side1 => exact mC (Kd.S_reads' HO_512001.out).2.2); (case side2 => exact (Kd.S_reads' HO_512001.out).2.1); (case side3 => exact mC (Kd.R_reads' HO_4.out).2.2); (case side4 => exact (Kd.R_reads' HO_4.out).2.1); rintro e w156 ⟨rfl, hb⟩; have n0_ := Aside0.mk (Kd.R_below (mR HO_4.out) hb); have n1_ := Aside0.mk (Kd.S_below (mS HO_512001.out) hb); have n2_ := Aside0.mk (Kd.R_below (mR HO530.out) hb); have n3_ := Aside0.mk (blk_below (g := gb511) (o := .cells #[.int .i64 t504, .slice Ao21 t505.length co21] 28 (0, 0)) ((mK (BK511.out))) hb); have n4_ := Aside0.mk (below_step mG hb); clear HO_4 HO_512001 HO530 BK511 HB; have HO_4 := n0_; have HO_512001 := n1_; have HO530 := n2_; have BK511 := n3_; have HB := n4_; clear n0_ n1_ n2_ n3_ n4_; (try clear hb)))
     go_meet
     case rel => exact ⟨_, (false), mF, H', ⟨by have := HJ16.out; first | omega | exact Nat.le_refl _⟩, ⟨by (with_reducible repeat (first | apply Kd.R_alloc | apply Kd.R_drewN | apply Kd.R_drew)); exact Kd.R_mono HO_4.out (fun _ hk => hk.2)⟩, ⟨by (with_reducible repeat (first | apply Kd.R_alloc | apply Kd.R_drewN | apply Kd.R_drew)); exact Kd.R_mono HO530.out (fun _ hk => hk.2)⟩, ⟨mS HO_512001.out⟩, ⟨(mK (BK511.out))⟩, ⟨mG⟩⟩
    subst c149
    rw [if_pos rfl] at H
    replace H := Option.bind_eq_some_iff.mp H
    obtain ⟨t533, A1500, H⟩ := H
    have A150 := Aside0.mk A1500
    clear A1500
    have H' := Aside0.mk H
    clear H
    obtain ⟨Ao151, co151, eo151⟩ := Kd.R_slice HO530.out
    subst eo151
    go_wp2_with (first | ((with_reducible refine gate_callee (f := 55) rfl ?_); refine goesL_ (some 56) rfl rfl Try.func55 (by kernel_rfl) rfl #[.slice Ao151 t528.length co151] rfl mA ?_; (with_reducible refine (laws_ascends.calls kj16 _ _ t528 true _ ?side1 ?side2 A146.out).mono ?_); (case side1 => exact mC (Kd.R_reads' HO530.out).2.2); (case side2 => exact (Kd.R_reads' HO530.out).2.1); rintro e w' ⟨rfl, ⟨nd, rfl⟩⟩; refine ⟨_, rfl, ?_⟩; have hcz152_0 : w145.cell? ⟨gb511, 0, none⟩ = some (.int .i64 t504) := (blk_cell BK511.out 0).trans rfl; have hcz152_1 : w145.cell? ⟨gb511, 1, none⟩ = some (.slice Ao21 t505.length co21) := (blk_cell BK511.out 1).trans rfl; have hfz152_0 := blk_frozen BK511.out 0; have hfz152_1 := blk_frozen BK511.out 1) | (go_at_call 37; (with_reducible refine (impl_IsAdmissible.calls kj16 t504 _ _ t505 _ _ t508 true _ ?side1 ?side2 ?side3 ?side4 A148.out).mono ?_); (case side1 => exact mC (Kd.S_reads' HO_512001.out).2.2); (case side2 => exact (Kd.S_reads' HO_512001.out).2.1); (case side3 => exact mC (Kd.R_reads' HO_4.out).2.2); (case side4 => exact (Kd.R_reads' HO_4.out).2.1); rintro e w153 ⟨rfl, hb⟩; have n0_ := Aside0.mk (Kd.R_below (mR HO_4.out) hb); have n1_ := Aside0.mk (Kd.S_below (mS HO_512001.out) hb); have n2_ := Aside0.mk (Kd.R_below (mR HO530.out) hb); have n3_ := Aside0.mk (blk_below (g := gb511) (o := .cells #[.int .i64 t504, .slice Ao21 t505.length co21] 28 (0, 0)) ((mK (BK511.out))) hb); have n4_ := Aside0.mk (below_step mG hb); clear HO_4 HO_512001 HO530 BK511 HB; have HO_4 := n0_; have HO_512001 := n1_; have HO530 := n2_; have BK511 := n3_; have HB := n4_; clear n0_ n1_ n2_ n3_ n4_; (try clear hb)) | (go_at_call 58; (with_reducible refine (laws_within.calls kj16 _ _ t508 _ _ t528 t533 _ ?side1 ?side2 ?side3 ?side4 A150.out).mono ?_); (case side1 => exact mC (Kd.R_reads' HO_4.out).2.2); (case side2 => exact (Kd.R_reads' HO_4.out).2.1); (case side3 => exact mC (Kd.R_reads' HO530.out).2.2); (case side4 => exact (Kd.R_reads' HO530.out).2.1); rintro e w' ⟨rfl, ⟨nd, rfl⟩⟩))
    go_meet
    case rel => exact ⟨_, (!t533), mF, H', ⟨by have := HJ16.out; first | omega | exact Nat.le_refl _⟩, ⟨by (with_reducible repeat (first | apply Kd.R_alloc | apply Kd.R_drewN | apply Kd.R_drew)); exact Kd.R_mono HO_4.out (fun _ hk => hk.2)⟩, ⟨by (with_reducible repeat (first | apply Kd.R_alloc | apply Kd.R_drewN | apply Kd.R_drew)); exact Kd.R_mono HO530.out (fun _ hk => hk.2)⟩, ⟨mS HO_512001.out⟩, ⟨(mK (BK511.out))⟩, ⟨mG⟩⟩
   case rest =>
    clear HC143; (try clear c7b0); (try clear c7b1); (try clear c7b2); (try clear hcz100_0); (try clear hcz100_1); (try clear hcz102_0); (try clear hcz102_1); (try clear hcz104_0); (try clear hcz104_1); (try clear hcz106_0); (try clear hcz106_1); (try clear hcz108_0); (try clear hcz108_1); (try clear hcz10_0); (try clear hcz10_1); (try clear hcz110_0); (try clear hcz110_1); (try clear hcz112_0); (try clear hcz112_1); (try clear hcz114_0); (try clear hcz114_1); (try clear hcz116_0); (try clear hcz116_1); (try clear hcz118_0); (try clear hcz118_1); (try clear hcz120_0); (try clear hcz120_1); (try clear hcz122_0); (try clear hcz122_1); (try clear hcz127_0); (try clear hcz127_1); (try clear hcz129_0); (try clear hcz129_1); (try clear hcz131_0); (try clear hcz131_1); (try clear hcz133_0); (try clear hcz133_1); (try clear hcz135_0); (try clear hcz135_1); (try clear hcz137_0); (try clear hcz137_1); (try clear hcz139_0); (try clear hcz139_1); (try clear hcz144_0); (try clear hcz144_1); (try clear hcz152_0); (try clear hcz152_1); (try clear hcz155_0); (try clear hcz155_1); (try clear hcz20_0); (try clear hcz20_1); (try clear hcz38_0); (try clear hcz38_1); (try clear hcz40_0); (try clear hcz40_1); (try clear hcz42_0); (try clear hcz42_1); (try clear hcz44_0); (try clear hcz44_1); (try clear hcz46_0); (try clear hcz46_1); (try clear hcz48_0); (try clear hcz48_1); (try clear hcz50_0); (try clear hcz50_1); (try clear hcz52_0); (try clear hcz52_1); (try clear hcz54_0); (try clear hcz54_1); (try clear hcz56_0); (try clear hcz56_1); (try clear hcz58_0); (try clear hcz58_1); (try clear hcz60_0); (try clear hcz60_1); (try clear hcz62_0); (try clear hcz62_1); (try clear hcz64_0); (try clear hcz64_1); (try clear hcz66_0); (try clear hcz66_1); (try clear hcz71_0); (try clear hcz71_1); (try clear hcz73_0); (try clear hcz73_1); (try clear hcz75_0); (try clear hcz75_1); (try clear hcz77_0); (try clear hcz77_1); (try clear hcz79_0); (try clear hcz79_1); (try clear hcz81_0); (try clear hcz81_1); (try clear hcz83_0); (try clear hcz83_1); (try clear hcz85_0); (try clear hcz85_1); (try clear hcz87_0); (try clear hcz87_1); (try clear hcz89_0); (try clear hcz89_1); (try clear hcz91_0); (try clear hcz91_1); (try clear hfz100_0); (try clear hfz100_1); (try clear hfz102_0); (try clear hfz102_1); (try clear hfz104_0); (try clear hfz104_1); (try clear hfz106_0); (try clear hfz106_1); (try clear hfz108_0); (try clear hfz108_1); (try clear hfz10_0); (try clear hfz10_1); (try clear hfz110_0); (try clear hfz110_1); (try clear hfz112_0); (try clear hfz112_1); (try clear hfz114_0); (try clear hfz114_1); (try clear hfz116_0); (try clear hfz116_1); (try clear hfz118_0); (try clear hfz118_1); (try clear hfz120_0); (try clear hfz120_1); (try clear hfz122_0); (try clear hfz122_1); (try clear hfz127_0); (try clear hfz127_1); (try clear hfz129_0); (try clear hfz129_1); (try clear hfz131_0); (try clear hfz131_1); (try clear hfz133_0); (try clear hfz133_1); (try clear hfz135_0); (try clear hfz135_1); (try clear hfz137_0); (try clear hfz137_1); (try clear hfz139_0); (try clear hfz139_1); (try clear hfz144_0); (try clear hfz144_1); (try clear hfz152_0); (try clear hfz152_1); (try clear hfz155_0); (try clear hfz155_1); (try clear hfz20_0); (try clear hfz20_1); (try clear hfz38_0); (try clear hfz38_1); (try clear hfz40_0); (try clear hfz40_1); (try clear hfz42_0); (try clear hfz42_1); (try clear hfz44_0); (try clear hfz44_1); (try clear hfz46_0); (try clear hfz46_1); (try clear hfz48_0); (try clear hfz48_1); (try clear hfz50_0); (try clear hfz50_1); (try clear hfz52_0); (try clear hfz52_1); (try clear hfz54_0); (try clear hfz54_1); (try clear hfz56_0); (try clear hfz56_1); (try clear hfz58_0); (try clear hfz58_1); (try clear hfz60_0); (try clear hfz60_1); (try clear hfz62_0); (try clear hfz62_1); (try clear hfz64_0); (try clear hfz64_1); (try clear hfz66_0); (try clear hfz66_1); (try clear hfz71_0); (try clear hfz71_1); (try clear hfz73_0); (try clear hfz73_1); (try clear hfz75_0); (try clear hfz75_1); (try clear hfz77_0); (try clear hfz77_1); (try clear hfz79_0); (try clear hfz79_1); (try clear hfz81_0); (try clear hfz81_1); (try clear hfz83_0); (try clear hfz83_1); (try clear hfz85_0); (try clear hfz85_1); (try clear hfz87_0); (try clear hfz87_1); (try clear hfz89_0); (try clear hfz89_1); (try clear hfz91_0); (try clear hfz91_1)
    obtain ⟨kq, x68_142, rfl, HA, HJ142, HO_4, HO_5, HO_512001, BK511, HB⟩ := hcut
    cases kq with
    | zero => exact absurd HA.out (by simp [laws_FnFree.j1])
    | succ kj142 =>
     have H := HA.out
     clear HA
     simp only [laws_FnFree.j1] at H
     by_cases c158 : x68_142 = true
     ·
      subst c158
      rw [if_pos rfl] at H
      obtain rfl := Option.some.inj H
      go_wp2
      go_ret
      exact ⟨mE, mG⟩
     replace c158 := Bool.eq_false_iff.mpr c158
     subst c158
     rw [if_neg (show ¬ (false = true) by decide)] at H
     have H' := Aside0.mk H
     clear H
     go_wp2
     go_loopg [6] kj142 (fun kq v6 w' => ∃ (x6_3 : Int), v6 = .int .i64 x6_3 ∧ Aside0 (laws_FnFree.l0 kq t508 t528 x6_3 t504 t505 = some r) ∧ Aside0 (kq ≤ kj142) ∧ Aside0 (Kd.R (Kd.int .i64) 3 w' w.heap.size (fun k_ => some k_ ≠ (v529 : Value).ownBlock) (.slice Ao24 t508.length co24) t508) ∧ Aside0 (Kd.R (Kd.int .i64) 3 w' w.heap.size (fun k_ => some k_ ≠ ((.slice Ao24 t508.length co24) : Value).ownBlock) v529 t528) ∧ Aside0 (Kd.S (Kd.slice 3 (Kd.int .i64)) 25 w' w.heap.size (fun k_ => some k_ ≠ ((.slice Ao24 t508.length co24) : Value).ownBlock ∧ some k_ ≠ (v529 : Value).ownBlock) (.slice Ao21 t505.length co21) t505) ∧ Aside0 (w'.heap[gb511]? = some (.cells #[.int .i64 t504, (.slice Ao21 t505.length co21)] 28 (0, 0))) ∧ Aside0 (Below w.heap.size w w'))
     case atStart => exact ⟨(0), mF, H', ⟨Nat.le_refl _⟩, ⟨mR HO_4.out⟩, ⟨mR HO_5.out⟩, ⟨mS HO_512001.out⟩, ⟨(mK (BK511.out))⟩, ⟨mG⟩⟩
     case round =>
      clear H'
      (try clear c7b0); (try clear c7b1); (try clear c7b2); (try clear hcz100_0); (try clear hcz100_1); (try clear hcz102_0); (try clear hcz102_1); (try clear hcz104_0); (try clear hcz104_1); (try clear hcz106_0); (try clear hcz106_1); (try clear hcz108_0); (try clear hcz108_1); (try clear hcz10_0); (try clear hcz10_1); (try clear hcz110_0); (try clear hcz110_1); (try clear hcz112_0); (try clear hcz112_1); (try clear hcz114_0); (try clear hcz114_1); (try clear hcz116_0); (try clear hcz116_1); (try clear hcz118_0); (try clear hcz118_1); (try clear hcz120_0); (try clear hcz120_1); (try clear hcz122_0); (try clear hcz122_1); (try clear hcz127_0); (try clear hcz127_1); (try clear hcz129_0); (try clear hcz129_1); (try clear hcz131_0); (try clear hcz131_1); (try clear hcz133_0); (try clear hcz133_1); (try clear hcz135_0); (try clear hcz135_1); (try clear hcz137_0); (try clear hcz137_1); (try clear hcz139_0); (try clear hcz139_1); (try clear hcz144_0); (try clear hcz144_1); (try clear hcz152_0); (try clear hcz152_1); (try clear hcz155_0); (try clear hcz155_1); (try clear hcz20_0); (try clear hcz20_1); (try clear hcz38_0); (try clear hcz38_1); (try clear hcz40_0); (try clear hcz40_1); (try clear hcz42_0); (try clear hcz42_1); (try clear hcz44_0); (try clear hcz44_1); (try clear hcz46_0); (try clear hcz46_1); (try clear hcz48_0); (try clear hcz48_1); (try clear hcz50_0); (try clear hcz50_1); (try clear hcz52_0); (try clear hcz52_1); (try clear hcz54_0); (try clear hcz54_1); (try clear hcz56_0); (try clear hcz56_1); (try clear hcz58_0); (try clear hcz58_1); (try clear hcz60_0); (try clear hcz60_1); (try clear hcz62_0); (try clear hcz62_1); (try clear hcz64_0); (try clear hcz64_1); (try clear hcz66_0); (try clear hcz66_1); (try clear hcz71_0); (try clear hcz71_1); (try clear hcz73_0); (try clear hcz73_1); (try clear hcz75_0); (try clear hcz75_1); (try clear hcz77_0); (try clear hcz77_1); (try clear hcz79_0); (try clear hcz79_1); (try clear hcz81_0); (try clear hcz81_1); (try clear hcz83_0); (try clear hcz83_1); (try clear hcz85_0); (try clear hcz85_1); (try clear hcz87_0); (try clear hcz87_1); (try clear hcz89_0); (try clear hcz89_1); (try clear hcz91_0); (try clear hcz91_1); (try clear hfz100_0); (try clear hfz100_1); (try clear hfz102_0); (try clear hfz102_1); (try clear hfz104_0); (try clear hfz104_1); (try clear hfz106_0); (try clear hfz106_1); (try clear hfz108_0); (try clear hfz108_1); (try clear hfz10_0); (try clear hfz10_1); (try clear hfz110_0); (try clear hfz110_1); (try clear hfz112_0); (try clear hfz112_1); (try clear hfz114_0); (try clear hfz114_1); (try clear hfz116_0); (try clear hfz116_1); (try clear hfz118_0); (try clear hfz118_1); (try clear hfz120_0); (try clear hfz120_1); (try clear hfz122_0); (try clear hfz122_1); (try clear hfz127_0); (try clear hfz127_1); (try clear hfz129_0); (try clear hfz129_1); (try clear hfz131_0); (try clear hfz131_1); (try clear hfz133_0); (try clear hfz133_1); (try clear hfz135_0); (try clear hfz135_1); (try clear hfz137_0); (try clear hfz137_1); (try clear hfz139_0); (try clear hfz139_1); (try clear hfz144_0); (try clear hfz144_1); (try clear hfz152_0); (try clear hfz152_1); (try clear hfz155_0); (try clear hfz155_1); (try clear hfz20_0); (try clear hfz20_1); (try clear hfz38_0); (try clear hfz38_1); (try clear hfz40_0); (try clear hfz40_1); (try clear hfz42_0); (try clear hfz42_1); (try clear hfz44_0); (try clear hfz44_1); (try clear hfz46_0); (try clear hfz46_1); (try clear hfz48_0); (try clear hfz48_1); (try clear hfz50_0); (try clear hfz50_1); (try clear hfz52_0); (try clear hfz52_1); (try clear hfz54_0); (try clear hfz54_1); (try clear hfz56_0); (try clear hfz56_1); (try clear hfz58_0); (try clear hfz58_1); (try clear hfz60_0); (try clear hfz60_1); (try clear hfz62_0); (try clear hfz62_1); (try clear hfz64_0); (try clear hfz64_1); (try clear hfz66_0); (try clear hfz66_1); (try clear hfz71_0); (try clear hfz71_1); (try clear hfz73_0); (try clear hfz73_1); (try clear hfz75_0); (try clear hfz75_1); (try clear hfz77_0); (try clear hfz77_1); (try clear hfz79_0); (try clear hfz79_1); (try clear hfz81_0); (try clear hfz81_1); (try clear hfz83_0); (try clear hfz83_1); (try clear hfz85_0); (try clear hfz85_1); (try clear hfz87_0); (try clear hfz87_1); (try clear hfz89_0); (try clear hfz89_1); (try clear hfz91_0); (try clear hfz91_1)
      obtain ⟨x6_3, rfl, HA, HK3, HO_4, HO_5, HO_512001, BK511, HB⟩ := hrel
      cases gk with
      | zero => exact absurd HA.out (by simp [laws_FnFree.l0])
      | succ k3 =>
       have H := HA.out
       clear HA
       simp only [laws_FnFree.l0] at H
       have HC159 := Aside0.mk H
       clear H
       go_upto_region 12 with (fail)
       go_cut [77] (fun v77 wc => ∃ (kq : Nat) (x77_158 : Bool), v77 = .bool x77_158 ∧ Aside0 (laws_FnFree.j3 kq t508 t528 x6_3 x77_158 t504 t505 = some r) ∧ Aside0 (kq ≤ k3) ∧ Aside0 (Kd.R (Kd.int .i64) 3 wc w.heap.size (fun k_ => some k_ ≠ (v529 : Value).ownBlock) (.slice Ao24 t508.length co24) t508) ∧ Aside0 (Kd.R (Kd.int .i64) 3 wc w.heap.size (fun k_ => some k_ ≠ ((.slice Ao24 t508.length co24) : Value).ownBlock) v529 t528) ∧ Aside0 (Kd.S (Kd.slice 3 (Kd.int .i64)) 25 wc w.heap.size (fun k_ => some k_ ≠ ((.slice Ao24 t508.length co24) : Value).ownBlock ∧ some k_ ≠ (v529 : Value).ownBlock) (.slice Ao21 t505.length co21) t505) ∧ Aside0 (wc.heap[gb511]? = some (.cells #[.int .i64 t504, (.slice Ao21 t505.length co21)] 28 (0, 0))) ∧ Aside0 (Below w.heap.size w wc))
       case first =>
        have H := HC159.out
        clear HC159
        by_cases c160 : x6_3 < t504
        rotate_left
        ·
         rw [if_neg c160] at H
         have c160b0 : decide (x6_3 < t504) = false := decide_eq_false c160
         clear c160
         (first | rw [c160b0] | (simp only [i64_w, i32_w]; rw [c160b0]) | skip)
         have H' := Aside0.mk H
         clear H
         have hcz164_0 : wr.cell? ⟨gb511, 0, none⟩ = some (.int .i64 t504) := (blk_cell BK511.out 0).trans rfl
         have hcz164_1 : wr.cell? ⟨gb511, 1, none⟩ = some (.slice Ao21 t505.length co21) := (blk_cell BK511.out 1).trans rfl
         have hfz164_0 := blk_frozen BK511.out 0
         have hfz164_1 := blk_frozen BK511.out 1
         go_wp2
         go_meet
         case rel => exact ⟨_, (false), mF, H', ⟨by have := HJ16.out; have := HJ142.out; have := HK3.out; first | omega | exact Nat.le_refl _⟩, ⟨mR HO_4.out⟩, ⟨mR HO_5.out⟩, ⟨mS HO_512001.out⟩, ⟨(mK (BK511.out))⟩, ⟨mG⟩⟩
        rw [if_pos c160] at H
        have c160b0 : decide (x6_3 < t504) = true := decide_eq_true c160
        clear c160
        (first | rw [c160b0] | (simp only [i64_w, i32_w]; rw [c160b0]) | skip)
        replace H := Option.bind_eq_some_iff.mp H
        obtain ⟨t534, A1610, H⟩ := H
        have A161 := Aside0.mk A1610
        clear A1610
        have H' := Aside0.mk H
        clear H
        have hcz162_0 : wr.cell? ⟨gb511, 0, none⟩ = some (.int .i64 t504) := (blk_cell BK511.out 0).trans rfl
        have hcz162_1 : wr.cell? ⟨gb511, 1, none⟩ = some (.slice Ao21 t505.length co21) := (blk_cell BK511.out 1).trans rfl
        have hfz162_0 := blk_frozen BK511.out 0
        have hfz162_1 := blk_frozen BK511.out 1
        go_wp2_with (first | (go_at_call 57; (with_reducible refine (impl_IsSet.calls k3 t504 _ _ t505 _ _ t508 t534 _ ?side1 ?side2 ?side3 ?side4 A161.out).mono ?_); (case side1 => exact mC (Kd.S_reads' HO_512001.out).2.2); (case side2 => exact (Kd.S_reads' HO_512001.out).2.1); (case side3 => exact mC (Kd.R_reads' HO_4.out).2.2); (case side4 => exact (Kd.R_reads' HO_4.out).2.1); rintro e w163 ⟨rfl, hb⟩; have n0_ := Aside0.mk (Kd.R_below (mR HO_4.out) hb); have n1_ := Aside0.mk (Kd.R_below (mR HO_5.out) hb); have n2_ := Aside0.mk (Kd.S_below (mS HO_512001.out) hb); have n3_ := Aside0.mk (blk_below (g := gb511) (o := .cells #[.int .i64 t504, .slice Ao21 t505.length co21] 28 (0, 0)) ((mK (BK511.out))) hb); have n4_ := Aside0.mk (below_step mG hb); clear HO_4 HO_5 HO_512001 BK511 HB; have HO_4 := n0_; have HO_5 := n1_; have HO_512001 := n2_; have BK511 := n3_; have HB := n4_; clear n0_ n1_ n2_ n3_ n4_; (try clear hb)))
        go_meet
        case rel => exact ⟨_, (t534), mF, H', ⟨by have := HJ16.out; have := HJ142.out; have := HK3.out; first | omega | exact Nat.le_refl _⟩, ⟨mR HO_4.out⟩, ⟨mR HO_5.out⟩, ⟨mS HO_512001.out⟩, ⟨(mK (BK511.out))⟩, ⟨mG⟩⟩
       case rest =>
        clear HC159; (try clear c7b0); (try clear c7b1); (try clear c7b2); (try clear c160b0); (try clear hcz100_0); (try clear hcz100_1); (try clear hcz102_0); (try clear hcz102_1); (try clear hcz104_0); (try clear hcz104_1); (try clear hcz106_0); (try clear hcz106_1); (try clear hcz108_0); (try clear hcz108_1); (try clear hcz10_0); (try clear hcz10_1); (try clear hcz110_0); (try clear hcz110_1); (try clear hcz112_0); (try clear hcz112_1); (try clear hcz114_0); (try clear hcz114_1); (try clear hcz116_0); (try clear hcz116_1); (try clear hcz118_0); (try clear hcz118_1); (try clear hcz120_0); (try clear hcz120_1); (try clear hcz122_0); (try clear hcz122_1); (try clear hcz127_0); (try clear hcz127_1); (try clear hcz129_0); (try clear hcz129_1); (try clear hcz131_0); (try clear hcz131_1); (try clear hcz133_0); (try clear hcz133_1); (try clear hcz135_0); (try clear hcz135_1); (try clear hcz137_0); (try clear hcz137_1); (try clear hcz139_0); (try clear hcz139_1); (try clear hcz144_0); (try clear hcz144_1); (try clear hcz152_0); (try clear hcz152_1); (try clear hcz155_0); (try clear hcz155_1); (try clear hcz162_0); (try clear hcz162_1); (try clear hcz164_0); (try clear hcz164_1); (try clear hcz20_0); (try clear hcz20_1); (try clear hcz38_0); (try clear hcz38_1); (try clear hcz40_0); (try clear hcz40_1); (try clear hcz42_0); (try clear hcz42_1); (try clear hcz44_0); (try clear hcz44_1); (try clear hcz46_0); (try clear hcz46_1); (try clear hcz48_0); (try clear hcz48_1); (try clear hcz50_0); (try clear hcz50_1); (try clear hcz52_0); (try clear hcz52_1); (try clear hcz54_0); (try clear hcz54_1); (try clear hcz56_0); (try clear hcz56_1); (try clear hcz58_0); (try clear hcz58_1); (try clear hcz60_0); (try clear hcz60_1); (try clear hcz62_0); (try clear hcz62_1); (try clear hcz64_0); (try clear hcz64_1); (try clear hcz66_0); (try clear hcz66_1); (try clear hcz71_0); (try clear hcz71_1); (try clear hcz73_0); (try clear hcz73_1); (try clear hcz75_0); (try clear hcz75_1); (try clear hcz77_0); (try clear hcz77_1); (try clear hcz79_0); (try clear hcz79_1); (try clear hcz81_0); (try clear hcz81_1); (try clear hcz83_0); (try clear hcz83_1); (try clear hcz85_0); (try clear hcz85_1); (try clear hcz87_0); (try clear hcz87_1); (try clear hcz89_0); (try clear hcz89_1); (try clear hcz91_0); (try clear hcz91_1); (try clear hfz100_0); (try clear hfz100_1); (try clear hfz102_0); (try clear hfz102_1); (try clear hfz104_0); (try clear hfz104_1); (try clear hfz106_0); (try clear hfz106_1); (try clear hfz108_0); (try clear hfz108_1); (try clear hfz10_0); (try clear hfz10_1); (try clear hfz110_0); (try clear hfz110_1); (try clear hfz112_0); (try clear hfz112_1); (try clear hfz114_0); (try clear hfz114_1); (try clear hfz116_0); (try clear hfz116_1); (try clear hfz118_0); (try clear hfz118_1); (try clear hfz120_0); (try clear hfz120_1); (try clear hfz122_0); (try clear hfz122_1); (try clear hfz127_0); (try clear hfz127_1); (try clear hfz129_0); (try clear hfz129_1); (try clear hfz131_0); (try clear hfz131_1); (try clear hfz133_0); (try clear hfz133_1); (try clear hfz135_0); (try clear hfz135_1); (try clear hfz137_0); (try clear hfz137_1); (try clear hfz139_0); (try clear hfz139_1); (try clear hfz144_0); (try clear hfz144_1); (try clear hfz152_0); (try clear hfz152_1); (try clear hfz155_0); (try clear hfz155_1); (try clear hfz162_0); (try clear hfz162_1); (try clear hfz164_0); (try clear hfz164_1); (try clear hfz20_0); (try clear hfz20_1); (try clear hfz38_0); (try clear hfz38_1); (try clear hfz40_0); (try clear hfz40_1); (try clear hfz42_0); (try clear hfz42_1); (try clear hfz44_0); (try clear hfz44_1); (try clear hfz46_0); (try clear hfz46_1); (try clear hfz48_0); (try clear hfz48_1); (try clear hfz50_0); (try clear hfz50_1); (try clear hfz52_0); (try clear hfz52_1); (try clear hfz54_0); (try clear hfz54_1); (try clear hfz56_0); (try clear hfz56_1); (try clear hfz58_0); (try clear hfz58_1); (try clear hfz60_0); (try clear hfz60_1); (try clear hfz62_0); (try clear hfz62_1); (try clear hfz64_0); (try clear hfz64_1); (try clear hfz66_0); (try clear hfz66_1); (try clear hfz71_0); (try clear hfz71_1); (try clear hfz73_0); (try clear hfz73_1); (try clear hfz75_0); (try clear hfz75_1); (try clear hfz77_0); (try clear hfz77_1); (try clear hfz79_0); (try clear hfz79_1); (try clear hfz81_0); (try clear hfz81_1); (try clear hfz83_0); (try clear hfz83_1); (try clear hfz85_0); (try clear hfz85_1); (try clear hfz87_0); (try clear hfz87_1); (try clear hfz89_0); (try clear hfz89_1); (try clear hfz91_0); (try clear hfz91_1)
        obtain ⟨kq, x77_158, rfl, HA, HJ158, HO_4, HO_5, HO_512001, BK511, HB⟩ := hcut
        cases kq with
        | zero => exact absurd HA.out (by simp [laws_FnFree.j3])
        | succ kj158 =>
         have H := HA.out
         clear HA
         simp only [laws_FnFree.j3] at H
         by_cases c165 : x77_158 = true
         rotate_left
         ·
          replace c165 := Bool.eq_false_iff.mpr c165
          subst c165
          rw [if_neg (show ¬ (false = true) by decide)] at H
          replace H := Option.bind_eq_some_iff.mp H
          obtain ⟨t535, A1950, H⟩ := H
          have A195 := Aside0.mk A1950
          clear A1950
          by_cases c196 : t535 = true
          rotate_left
          ·
           replace c196 := Bool.eq_false_iff.mpr c196
           subst c196
           rw [if_neg (show ¬ (false = true) by decide)] at H
           obtain rfl := Option.some.inj H
           have hcz203_0 : wc.cell? ⟨gb511, 0, none⟩ = some (.int .i64 t504) := (blk_cell BK511.out 0).trans rfl
           have hcz203_1 : wc.cell? ⟨gb511, 1, none⟩ = some (.slice Ao21 t505.length co21) := (blk_cell BK511.out 1).trans rfl
           have hfz203_0 := blk_frozen BK511.out 0
           have hfz203_1 := blk_frozen BK511.out 1
           go_wp2_with (first | ((with_reducible refine gate_callee (f := 37) rfl ?_); refine goesL_ (some 102) rfl rfl Try.func37 (by kernel_rfl) rfl #[.agg #[.int .i64 t504, .slice Ao21 t505.length co21], .slice Ao24 t508.length co24] rfl mA ?_; (with_reducible refine (impl_IsAdmissible.calls kj158 t504 _ _ t505 _ _ t508 false _ ?side1 ?side2 ?side3 ?side4 A195.out).mono ?_); (case side1 => exact mC (Kd.S_reads' HO_512001.out).2.2); (case side2 => exact (Kd.S_reads' HO_512001.out).2.1); (case side3 => exact mC (Kd.R_reads' HO_4.out).2.2); (case side4 => exact (Kd.R_reads' HO_4.out).2.1); rintro e w204 ⟨rfl, hb⟩; refine ⟨_, rfl, ?_⟩; have n0_ := Aside0.mk (Kd.R_below (mR HO_4.out) hb); have n1_ := Aside0.mk (Kd.R_below (mR HO_5.out) hb); have n2_ := Aside0.mk (Kd.S_below (mS HO_512001.out) hb); have n3_ := Aside0.mk (blk_below (g := gb511) (o := .cells #[.int .i64 t504, .slice Ao21 t505.length co21] 28 (0, 0)) ((mK (BK511.out))) hb); have n4_ := Aside0.mk (below_step mG hb); clear HO_4 HO_5 HO_512001 BK511 HB; have HO_4 := n0_; have HO_5 := n1_; have HO_512001 := n2_; have BK511 := n3_; have HB := n4_; clear n0_ n1_ n2_ n3_ n4_; (try clear hb)))
           go_ret
           exact ⟨mE, mG⟩
          subst c196
          rw [if_pos rfl] at H
          replace H := Option.bind_eq_some_iff.mp H
          obtain ⟨t536, A1970, H⟩ := H
          have A197 := Aside0.mk A1970
          clear A1970
          obtain rfl := Option.some.inj H
          have hcz198_0 : wc.cell? ⟨gb511, 0, none⟩ = some (.int .i64 t504) := (blk_cell BK511.out 0).trans rfl
          have hcz198_1 : wc.cell? ⟨gb511, 1, none⟩ = some (.slice Ao21 t505.length co21) := (blk_cell BK511.out 1).trans rfl
          have hfz198_0 := blk_frozen BK511.out 0
          have hfz198_1 := blk_frozen BK511.out 1
          go_wp2_with (first | ((with_reducible refine gate_callee (f := 37) rfl ?_); refine goesL_ (some 102) rfl rfl Try.func37 (by kernel_rfl) rfl #[.agg #[.int .i64 t504, .slice Ao21 t505.length co21], .slice Ao24 t508.length co24] rfl mA ?_; (with_reducible refine (impl_IsAdmissible.calls kj158 t504 _ _ t505 _ _ t508 true _ ?side1 ?side2 ?side3 ?side4 A195.out).mono ?_); (case side1 => exact mC (Kd.S_reads' HO_512001.out).2.2); (case side2 => exact (Kd.S_reads' HO_512001.out).2.1); (case side3 => exact mC (Kd.R_reads' HO_4.out).2.2); (case side4 => exact (Kd.R_reads' HO_4.out).2.1); rintro e w199 ⟨rfl, hb⟩; refine ⟨_, rfl, ?_⟩; have n0_ := Aside0.mk (Kd.R_below (mR HO_4.out) hb); have n1_ := Aside0.mk (Kd.R_below (mR HO_5.out) hb); have n2_ := Aside0.mk (Kd.S_below (mS HO_512001.out) hb); have n3_ := Aside0.mk (blk_below (g := gb511) (o := .cells #[.int .i64 t504, .slice Ao21 t505.length co21] 28 (0, 0)) ((mK (BK511.out))) hb); have n4_ := Aside0.mk (below_step mG hb); clear HO_4 HO_5 HO_512001 BK511 HB; have HO_4 := n0_; have HO_5 := n1_; have HO_512001 := n2_; have BK511 := n3_; have HB := n4_; clear n0_ n1_ n2_ n3_ n4_; (try clear hb); have hcz200_0 : w199.cell? ⟨gb511, 0, none⟩ = some (.int .i64 t504) := (blk_cell BK511.out 0).trans rfl; have hcz200_1 : w199.cell? ⟨gb511, 1, none⟩ = some (.slice Ao21 t505.length co21) := (blk_cell BK511.out 1).trans rfl; have hfz200_0 := blk_frozen BK511.out 0; have hfz200_1 := blk_frozen BK511.out 1; obtain ⟨Ao201, co201, eo201⟩ := Kd.R_slice HO_5.out; subst eo201) | (go_at_call 31; (with_reducible refine (impl_IsFree.calls kj158 t504 _ _ t505 _ _ t528 t536 _ ?side1 ?side2 ?side3 ?side4 A197.out).mono ?_); (case side1 => exact mC (Kd.S_reads' HO_512001.out).2.2); (case side2 => exact (Kd.S_reads' HO_512001.out).2.1); (case side3 => exact mC (Kd.R_reads' HO_5.out).2.2); (case side4 => exact (Kd.R_reads' HO_5.out).2.1); rintro e w202 ⟨rfl, hb⟩; have n0_ := Aside0.mk (Kd.R_below (mR HO_4.out) hb); have n1_ := Aside0.mk (Kd.R_below (mR HO_5.out) hb); have n2_ := Aside0.mk (Kd.S_below (mS HO_512001.out) hb); have n3_ := Aside0.mk (blk_below (g := gb511) (o := .cells #[.int .i64 t504, .slice Ao21 t505.length co21] 28 (0, 0)) ((mK (BK511.out))) hb); have n4_ := Aside0.mk (below_step mG hb); clear HO_4 HO_5 HO_512001 BK511 HB; have HO_4 := n0_; have HO_5 := n1_; have HO_512001 := n2_; have BK511 := n3_; have HB := n4_; clear n0_ n1_ n2_ n3_ n4_; (try clear hb)))
          go_ret
          exact ⟨mE, mG⟩
         subst c165
         rw [if_pos rfl] at H
         replace H := Option.bind_eq_some_iff.mp H
         obtain ⟨t537, A1660, H⟩ := H
         have A166 := Aside0.mk A1660
         clear A1660
         replace H := Option.bind_eq_some_iff.mp H
         obtain ⟨t538, A1670, H⟩ := H
         have A167 := Aside0.mk A1670
         clear A1670
         by_cases c168 : (t537 != t538) = true
         ·
          rw [if_pos c168] at H
          have c168b0 : (t537 != t538) = true := c168
          (try (have c168b1 : decide (t537 = t538) = false := by simpa using c168))
          (try (have c168b2 : (t537 == t538) = false := by simpa using c168))
          (try (have c168b3 : ¬ (t537 = t538) := by simpa using c168))
          clear c168
          obtain rfl := Option.some.inj H
          try go_wp2
          have n0_ := Aside0.mk (Kd.R_drew HO_4.out)
          have n1_ := Aside0.mk (Kd.R_drew HO_5.out)
          have n2_ := Aside0.mk (Kd.S_drew HO_512001.out)
          have n3_ := Aside0.mk (blk_drew BK511.out)
          have n4_ := Aside0.mk (below_drew1 HB.out)
          clear HO_4 HO_5 HO_512001 BK511 HB; have HO_4 := n0_; have HO_5 := n1_; have HO_512001 := n2_; have BK511 := n3_; have HB := n4_; clear n0_ n1_ n2_ n3_ n4_
          obtain ⟨Ao170, co170, eo170⟩ := Kd.R_slice HO_5.out
          (first | subst eo170 | (injection eo170 with f1_ f2_ f3_; have f4_ := f1_.symm; have f5_ := f3_.symm; clear f1_ f2_ f3_; subst f4_; subst f5_))
          refine start_ (n := 8) (S := fun w' => w'.cell? ⟨gb511, 0, none⟩ = some (.int .i64 t504) ∧ w'.cell? ⟨gb511, 1, none⟩ = some (.slice Ao21 t505.length co21)) (ds := []) (L_ 0 8) (by kernel_rfl) rfl rfl ⟨(blk_cell BK511.out 0).trans rfl, (blk_cell BK511.out 1).trans rfl⟩ (fun hHeld => ?_); refine with_tabW laws_FnFree.tab14 laws_FnFree.bits14 (fun HT_ HW_ => ?_)
          generalize wc.drew = w169 at HO_4 HO_5 HO_512001 BK511 HB hHeld ⊢
          refine ps 0 80 (L_ 1 8) HT_.out ?_
          refine ps 1 81 (L_ 2 8) HT_.out ?_
          refine ps 4 84 #[true, true, false, false, true, false, false, false] HT_.out ?_
          refine ps 5 85 #[true, true, false, false, true, true, false, false] HT_.out ?_
          refine take_ (i := 3) (N := some 83) (v := ?_) (a' := ?_) #[true, true, false, true, true, true, false, false] rfl rfl (take_ofW HT_.out HW_.out (by kernel_rfl)) (fun _ _ _ h => h) (Or.inl ⟨by rfl, ?_⟩) hHeld ?_ ?_
          rotate_left
          ·
           rintro w' ⟨s0, s1⟩
           go_simp
           with_reducible rfl
          rotate_left
          ·
           simp only [Act.put, List.setIfInBounds_toArray, List.set_cons_zero, List.set_cons_succ, i64_w, i32_w]
           rfl
          refine one_ (i := 2) (N := some 82) (L_ 6 8) rfl rfl (one_of HT_.out (by kernel_rfl)) (by decide) (fun K hK => ?_)
          refine goes_ Try.func51 (by kernel_rfl) rfl #[.slice Ao170 t528.length co170, .int .i64 x6_3] (by rfl) rfl rfl mA ?_
          with_reducible refine (laws_contains.calls kj158 _ _ t528 x6_3 t537 _ ?side1 ?side2 A166.out).mono ?_
          (case side1 => exact mC (Kd.R_reads' HO_5.out).2.2)
          (case side2 => exact (Kd.R_reads' HO_5.out).2.1)
          rintro e w' ⟨rfl, ⟨nd, rfl⟩⟩
          refine ⟨_, rfl, ?_⟩
          refine hK.out _ _ ⟨(blk_cell BK511.out 0).trans rfl, (blk_cell BK511.out 1).trans rfl⟩ (fun hHeld => ?_)
          clear hK K
          refine norm_ (a' := ?_) ?_ ?_
          rotate_left
          ·
           show Act.put _ (some 82) _ = _
           simp only [Act.put, List.setIfInBounds_toArray, List.set_cons_zero, List.set_cons_succ, i64_w, i32_w]
           rfl
          refine one_ (i := 6) (N := some 86) (L_ 7 8) rfl rfl (one_of HT_.out (by kernel_rfl)) (by decide) (fun K hK => ?_)
          refine goes_ Try.func35 (by kernel_rfl) rfl #[.agg #[.int .i64 t504, .slice Ao21 t505.length co21], .slice Ao24 t508.length co24, .int .i64 x6_3] (by rfl) rfl rfl mA ?_
          with_reducible refine (impl_Defends.calls kj158 t504 _ _ t505 _ _ t508 x6_3 t538 _ ?side1 ?side2 ?side3 ?side4 A167.out).mono ?_
          (case side1 => exact mC (Kd.S_reads' HO_512001.out).2.2)
          (case side2 => exact (Kd.S_reads' HO_512001.out).2.1)
          (case side3 => exact mC (Kd.R_reads' HO_4.out).2.2)
          (case side4 => exact (Kd.R_reads' HO_4.out).2.1)
          rintro e w171 ⟨rfl, hb⟩
          refine ⟨_, rfl, ?_⟩
          have n0_ := Aside0.mk (Kd.R_below (mR HO_4.out) hb)
          have n1_ := Aside0.mk (Kd.R_below (mR HO_5.out) hb)
          have n2_ := Aside0.mk (Kd.S_below (mS HO_512001.out) hb)
          have n3_ := Aside0.mk (blk_below (g := gb511) (o := .cells #[.int .i64 t504, .slice Ao21 t505.length co21] 28 (0, 0)) ((mK (BK511.out))) hb)
          have n4_ := Aside0.mk (below_step mG hb)
          clear HO_4 HO_5 HO_512001 BK511 HB; have HO_4 := n0_; have HO_5 := n1_; have HO_512001 := n2_; have BK511 := n3_; have HB := n4_; clear n0_ n1_ n2_ n3_ n4_; (try clear hb)
          refine hK.out _ _ ⟨(blk_cell BK511.out 0).trans rfl, (blk_cell BK511.out 1).trans rfl⟩ (fun hHeld => ?_)
          clear hK K
          refine norm_ (a' := ?_) ?_ ?_
          rotate_left
          ·
           show Act.put _ (some 86) _ = _
           simp only [Act.put, List.setIfInBounds_toArray, List.set_cons_zero, List.set_cons_succ, i64_w, i32_w]
           rfl
          refine ps 7 87 (L_ 8 8) HT_.out ?_
          refine done_ (done_of HT_.out (by kernel_rfl)) ?_
          try go_wp2
          go_ret
          exact ⟨mE, mG⟩
         rw [if_neg c168] at H
         have c168b0 : (t537 != t538) = false := by simpa using c168
         (try (have c168b1 : decide (t537 = t538) = true := by simpa using c168))
         (try (have c168b2 : (t537 == t538) = true := by simpa using c168))
         clear c168
         by_cases c172 : (t508.length : Int) > 0
         rotate_left
         ·
          rw [if_neg c172] at H
          have c172b0 : decide (0 < (t508.length : Int)) = false := decide_eq_false c172
          have c172b1 : decide (0 < t508.length) = false := decide_eq_false (by omega)
          clear c172
          have H' := Aside0.mk H
          clear H
          try go_wp2
          have n0_ := Aside0.mk (Kd.R_drew HO_4.out)
          have n1_ := Aside0.mk (Kd.R_drew HO_5.out)
          have n2_ := Aside0.mk (Kd.S_drew HO_512001.out)
          have n3_ := Aside0.mk (blk_drew BK511.out)
          have n4_ := Aside0.mk (below_drew1 HB.out)
          clear HO_4 HO_5 HO_512001 BK511 HB; have HO_4 := n0_; have HO_5 := n1_; have HO_512001 := n2_; have BK511 := n3_; have HB := n4_; clear n0_ n1_ n2_ n3_ n4_
          obtain ⟨Ao192, co192, eo192⟩ := Kd.R_slice HO_5.out
          (first | subst eo192 | (injection eo192 with f1_ f2_ f3_; have f4_ := f1_.symm; have f5_ := f3_.symm; clear f1_ f2_ f3_; subst f4_; subst f5_))
          refine start_ (n := 8) (S := fun w' => w'.cell? ⟨gb511, 0, none⟩ = some (.int .i64 t504) ∧ w'.cell? ⟨gb511, 1, none⟩ = some (.slice Ao21 t505.length co21)) (ds := []) (L_ 0 8) (by kernel_rfl) rfl rfl ⟨(blk_cell BK511.out 0).trans rfl, (blk_cell BK511.out 1).trans rfl⟩ (fun hHeld => ?_); refine with_tabW laws_FnFree.tab14 laws_FnFree.bits14 (fun HT_ HW_ => ?_)
          generalize wc.drew = w191 at HO_4 HO_5 HO_512001 BK511 HB hHeld ⊢
          refine ps 0 80 (L_ 1 8) HT_.out ?_
          refine ps 1 81 (L_ 2 8) HT_.out ?_
          refine ps 4 84 #[true, true, false, false, true, false, false, false] HT_.out ?_
          refine ps 5 85 #[true, true, false, false, true, true, false, false] HT_.out ?_
          refine take_ (i := 3) (N := some 83) (v := ?_) (a' := ?_) #[true, true, false, true, true, true, false, false] rfl rfl (take_ofW HT_.out HW_.out (by kernel_rfl)) (fun _ _ _ h => h) (Or.inl ⟨by rfl, ?_⟩) hHeld ?_ ?_
          rotate_left
          ·
           rintro w' ⟨s0, s1⟩
           go_simp
           with_reducible rfl
          rotate_left
          ·
           simp only [Act.put, List.setIfInBounds_toArray, List.set_cons_zero, List.set_cons_succ, i64_w, i32_w]
           rfl
          refine one_ (i := 2) (N := some 82) (L_ 6 8) rfl rfl (one_of HT_.out (by kernel_rfl)) (by decide) (fun K hK => ?_)
          refine goes_ Try.func51 (by kernel_rfl) rfl #[.slice Ao192 t528.length co192, .int .i64 x6_3] (by rfl) rfl rfl mA ?_
          with_reducible refine (laws_contains.calls kj158 _ _ t528 x6_3 t537 _ ?side1 ?side2 A166.out).mono ?_
          (case side1 => exact mC (Kd.R_reads' HO_5.out).2.2)
          (case side2 => exact (Kd.R_reads' HO_5.out).2.1)
          rintro e w' ⟨rfl, ⟨nd, rfl⟩⟩
          refine ⟨_, rfl, ?_⟩
          refine hK.out _ _ ⟨(blk_cell BK511.out 0).trans rfl, (blk_cell BK511.out 1).trans rfl⟩ (fun hHeld => ?_)
          clear hK K
          refine norm_ (a' := ?_) ?_ ?_
          rotate_left
          ·
           show Act.put _ (some 82) _ = _
           simp only [Act.put, List.setIfInBounds_toArray, List.set_cons_zero, List.set_cons_succ, i64_w, i32_w]
           rfl
          refine one_ (i := 6) (N := some 86) (L_ 7 8) rfl rfl (one_of HT_.out (by kernel_rfl)) (by decide) (fun K hK => ?_)
          refine goes_ Try.func35 (by kernel_rfl) rfl #[.agg #[.int .i64 t504, .slice Ao21 t505.length co21], .slice Ao24 t508.length co24, .int .i64 x6_3] (by rfl) rfl rfl mA ?_
          with_reducible refine (impl_Defends.calls kj158 t504 _ _ t505 _ _ t508 x6_3 t538 _ ?side1 ?side2 ?side3 ?side4 A167.out).mono ?_
          (case side1 => exact mC (Kd.S_reads' HO_512001.out).2.2)
          (case side2 => exact (Kd.S_reads' HO_512001.out).2.1)
          (case side3 => exact mC (Kd.R_reads' HO_4.out).2.2)
          (case side4 => exact (Kd.R_reads' HO_4.out).2.1)
          rintro e w193 ⟨rfl, hb⟩
          refine ⟨_, rfl, ?_⟩
          have n0_ := Aside0.mk (Kd.R_below (mR HO_4.out) hb)
          have n1_ := Aside0.mk (Kd.R_below (mR HO_5.out) hb)
          have n2_ := Aside0.mk (Kd.S_below (mS HO_512001.out) hb)
          have n3_ := Aside0.mk (blk_below (g := gb511) (o := .cells #[.int .i64 t504, .slice Ao21 t505.length co21] 28 (0, 0)) ((mK (BK511.out))) hb)
          have n4_ := Aside0.mk (below_step mG hb)
          clear HO_4 HO_5 HO_512001 BK511 HB; have HO_4 := n0_; have HO_5 := n1_; have HO_512001 := n2_; have BK511 := n3_; have HB := n4_; clear n0_ n1_ n2_ n3_ n4_; (try clear hb)
          refine hK.out _ _ ⟨(blk_cell BK511.out 0).trans rfl, (blk_cell BK511.out 1).trans rfl⟩ (fun hHeld => ?_)
          clear hK K
          refine norm_ (a' := ?_) ?_ ?_
          rotate_left
          ·
           show Act.put _ (some 86) _ = _
           simp only [Act.put, List.setIfInBounds_toArray, List.set_cons_zero, List.set_cons_succ, i64_w, i32_w]
           rfl
          refine ps 7 87 (L_ 8 8) HT_.out ?_
          refine done_ (done_of HT_.out (by kernel_rfl)) ?_
          try go_wp2
          have n0_ := Aside0.mk (Kd.R_drew HO_4.out)
          have n1_ := Aside0.mk (Kd.R_drew HO_5.out)
          have n2_ := Aside0.mk (Kd.S_drew HO_512001.out)
          have n3_ := Aside0.mk (blk_drew BK511.out)
          have n4_ := Aside0.mk (below_drew1 HB.out)
          clear HO_4 HO_5 HO_512001 BK511 HB; have HO_4 := n0_; have HO_5 := n1_; have HO_512001 := n2_; have BK511 := n3_; have HB := n4_; clear n0_ n1_ n2_ n3_ n4_
          refine start_ (n := 12) (S := fun w' => True) (ds := []) (L_ 0 12) (by kernel_rfl) rfl rfl trivial (fun hHeld => ?_); refine with_tabW laws_FnFree.tab16 laws_FnFree.bits16 (fun HT_ HW_ => ?_)
          generalize w193.drew = w194 at HO_4 HO_5 HO_512001 BK511 HB hHeld ⊢
          refine ps 0 88 (L_ 1 12) HT_.out ?_
          refine ps 1 89 (L_ 2 12) HT_.out ?_
          refine ps 2 90 (L_ 3 12) HT_.out ?_
          refine ps 3 91 (L_ 4 12) HT_.out ?_
          refine pure_ (i := 4) (N := some 92) (v := undef) (a' := ?_) (L_ 5 12) rfl rfl (any_of HT_.out (by kernel_rfl)) (fun _ _ _ h => h) (Or.inr ⟨by rfl, rfl⟩) ?_ ?_
          rotate_left
          ·
           simp only [Act.put, List.setIfInBounds_toArray, List.set_cons_zero, List.set_cons_succ, i64_w, i32_w]
           rfl
          refine pure_ (i := 5) (N := some 93) (v := undef) (a' := ?_) (L_ 6 12) rfl rfl (any_of HT_.out (by kernel_rfl)) (fun _ _ _ h => h) (Or.inr ⟨by rfl, rfl⟩) ?_ ?_
          rotate_left
          ·
           simp only [Act.put, List.setIfInBounds_toArray, List.set_cons_zero, List.set_cons_succ, i64_w, i32_w]
           rfl
          refine pure_ (i := 6) (N := some 94) (v := undef) (a' := ?_) (L_ 7 12) rfl rfl (any_of HT_.out (by kernel_rfl)) (fun _ _ _ h => h) (Or.inr ⟨by rfl, rfl⟩) ?_ ?_
          rotate_left
          ·
           simp only [Act.put, List.setIfInBounds_toArray, List.set_cons_zero, List.set_cons_succ, i64_w, i32_w]
           rfl
          refine pure_ (i := 7) (N := some 95) (v := undef) (a' := ?_) (L_ 8 12) rfl rfl (any_of HT_.out (by kernel_rfl)) (fun _ _ _ h => h) (Or.inr ⟨by rfl, rfl⟩) ?_ ?_
          rotate_left
          ·
           simp only [Act.put, List.setIfInBounds_toArray, List.set_cons_zero, List.set_cons_succ, i64_w, i32_w]
           rfl
          refine pure_ (i := 8) (N := some 96) (v := undef) (a' := ?_) (L_ 9 12) rfl rfl (any_of HT_.out (by kernel_rfl)) (fun _ _ _ h => h) (Or.inr ⟨by rfl, rfl⟩) ?_ ?_
          rotate_left
          ·
           simp only [Act.put, List.setIfInBounds_toArray, List.set_cons_zero, List.set_cons_succ, i64_w, i32_w]
           rfl
          refine pure_ (i := 9) (N := some 97) (v := undef) (a' := ?_) (L_ 10 12) rfl rfl (any_of HT_.out (by kernel_rfl)) (fun _ _ _ h => h) (Or.inr ⟨by rfl, rfl⟩) ?_ ?_
          rotate_left
          ·
           simp only [Act.put, List.setIfInBounds_toArray, List.set_cons_zero, List.set_cons_succ, i64_w, i32_w]
           rfl
          refine pure_ (i := 10) (N := some 98) (v := undef) (a' := ?_) (L_ 11 12) rfl rfl (any_of HT_.out (by kernel_rfl)) (fun _ _ _ h => h) (Or.inr ⟨by rfl, rfl⟩) ?_ ?_
          rotate_left
          ·
           simp only [Act.put, List.setIfInBounds_toArray, List.set_cons_zero, List.set_cons_succ, i64_w, i32_w]
           rfl
          refine ps 11 99 (L_ 12 12) HT_.out ?_
          refine done_ (done_of HT_.out (by kernel_rfl)) ?_
          try go_wp2
          go_roundg kj158
          case measure => have := HJ16.out; have := HJ142.out; have := HK3.out; have := HJ158.out; omega
          case rel => exact ⟨(wrap64 (x6_3 + 1)), mF, H', ⟨by have := HJ16.out; have := HJ142.out; have := HK3.out; have := HJ158.out; omega⟩, ⟨mR HO_4.out⟩, ⟨mR HO_5.out⟩, ⟨mS HO_512001.out⟩, ⟨(mK (BK511.out))⟩, ⟨mG⟩⟩
         rw [if_pos c172] at H
         have c172b0 : decide (0 < (t508.length : Int)) = true := decide_eq_true c172
         have c172b1 : decide (0 < t508.length) = true := decide_eq_true (by omega)
         clear c172
         by_cases c173 : 1 ≤ (t508.length : Int)
         rotate_left
         ·
          rw [if_neg c173] at H
          exact absurd H (by simp)
         rw [if_pos c173] at H
         have c173b0 := eq_true c173
         have c173b1 : decide (1 ≤ (t508.length : Int)) = true := decide_eq_true c173
         clear c173
         obtain ⟨y539, hy539⟩ : ∃ y_ : List Int, y_ = (t508.drop 1) := ⟨_, rfl⟩
         replace H : ((impl_DefendedBy.f kj158 t504 t505 y539).bind fun t543 => ((laws_within.f kj158 t543 t528).bind fun t546 => (if t546 = true then (laws_FnFree.l0 kj158 t508 t528 (wrap64 (x6_3 + 1)) t504 t505) else (some false)))) = some r := by first | (rw [hy539]; with_reducible exact H) | (have H2_ := (Option.bind_some _ _).symm.trans H; rw [hy539]; with_reducible exact H2_) | (have H2_ := (Option.bind_some _ _).symm.trans H; with_reducible exact H2_) | with_reducible exact H | (rw [hy539]; exact H) | exact H
         have Ny539 := Aside0.mk hy539
         clear hy539
         replace H := Option.bind_eq_some_iff.mp H
         obtain ⟨t543, A1740, H⟩ := H
         have A174 := Aside0.mk A1740
         clear A1740
         replace H := Option.bind_eq_some_iff.mp H
         obtain ⟨t546, A1750, H⟩ := H
         have A175 := Aside0.mk A1750
         clear A1750
         by_cases c176 : t546 = true
         rotate_left
         ·
          replace c176 := Bool.eq_false_iff.mpr c176
          subst c176
          rw [if_neg (show ¬ (false = true) by decide)] at H
          obtain rfl := Option.some.inj H
          try go_wp2
          have n0_ := Aside0.mk (Kd.R_drew HO_4.out)
          have n1_ := Aside0.mk (Kd.R_drew HO_5.out)
          have n2_ := Aside0.mk (Kd.S_drew HO_512001.out)
          have n3_ := Aside0.mk (blk_drew BK511.out)
          have n4_ := Aside0.mk (below_drew1 HB.out)
          clear HO_4 HO_5 HO_512001 BK511 HB; have HO_4 := n0_; have HO_5 := n1_; have HO_512001 := n2_; have BK511 := n3_; have HB := n4_; clear n0_ n1_ n2_ n3_ n4_
          obtain ⟨Ao185, co185, eo185⟩ := Kd.R_slice HO_5.out
          (first | subst eo185 | (injection eo185 with f1_ f2_ f3_; have f4_ := f1_.symm; have f5_ := f3_.symm; clear f1_ f2_ f3_; subst f4_; subst f5_))
          refine start_ (n := 8) (S := fun w' => w'.cell? ⟨gb511, 0, none⟩ = some (.int .i64 t504) ∧ w'.cell? ⟨gb511, 1, none⟩ = some (.slice Ao21 t505.length co21)) (ds := []) (L_ 0 8) (by kernel_rfl) rfl rfl ⟨(blk_cell BK511.out 0).trans rfl, (blk_cell BK511.out 1).trans rfl⟩ (fun hHeld => ?_); refine with_tabW laws_FnFree.tab14 laws_FnFree.bits14 (fun HT_ HW_ => ?_)
          generalize wc.drew = w184 at HO_4 HO_5 HO_512001 BK511 HB hHeld ⊢
          refine ps 0 80 (L_ 1 8) HT_.out ?_
          refine ps 1 81 (L_ 2 8) HT_.out ?_
          refine ps 4 84 #[true, true, false, false, true, false, false, false] HT_.out ?_
          refine ps 5 85 #[true, true, false, false, true, true, false, false] HT_.out ?_
          refine take_ (i := 3) (N := some 83) (v := ?_) (a' := ?_) #[true, true, false, true, true, true, false, false] rfl rfl (take_ofW HT_.out HW_.out (by kernel_rfl)) (fun _ _ _ h => h) (Or.inl ⟨by rfl, ?_⟩) hHeld ?_ ?_
          rotate_left
          ·
           rintro w' ⟨s0, s1⟩
           go_simp
           with_reducible rfl
          rotate_left
          ·
           simp only [Act.put, List.setIfInBounds_toArray, List.set_cons_zero, List.set_cons_succ, i64_w, i32_w]
           rfl
          refine one_ (i := 2) (N := some 82) (L_ 6 8) rfl rfl (one_of HT_.out (by kernel_rfl)) (by decide) (fun K hK => ?_)
          refine goes_ Try.func51 (by kernel_rfl) rfl #[.slice Ao185 t528.length co185, .int .i64 x6_3] (by rfl) rfl rfl mA ?_
          with_reducible refine (laws_contains.calls kj158 _ _ t528 x6_3 t537 _ ?side1 ?side2 A166.out).mono ?_
          (case side1 => exact mC (Kd.R_reads' HO_5.out).2.2)
          (case side2 => exact (Kd.R_reads' HO_5.out).2.1)
          rintro e w' ⟨rfl, ⟨nd, rfl⟩⟩
          refine ⟨_, rfl, ?_⟩
          refine hK.out _ _ ⟨(blk_cell BK511.out 0).trans rfl, (blk_cell BK511.out 1).trans rfl⟩ (fun hHeld => ?_)
          clear hK K
          refine norm_ (a' := ?_) ?_ ?_
          rotate_left
          ·
           show Act.put _ (some 82) _ = _
           simp only [Act.put, List.setIfInBounds_toArray, List.set_cons_zero, List.set_cons_succ, i64_w, i32_w]
           rfl
          refine one_ (i := 6) (N := some 86) (L_ 7 8) rfl rfl (one_of HT_.out (by kernel_rfl)) (by decide) (fun K hK => ?_)
          refine goes_ Try.func35 (by kernel_rfl) rfl #[.agg #[.int .i64 t504, .slice Ao21 t505.length co21], .slice Ao24 t508.length co24, .int .i64 x6_3] (by rfl) rfl rfl mA ?_
          with_reducible refine (impl_Defends.calls kj158 t504 _ _ t505 _ _ t508 x6_3 t538 _ ?side1 ?side2 ?side3 ?side4 A167.out).mono ?_
          (case side1 => exact mC (Kd.S_reads' HO_512001.out).2.2)
          (case side2 => exact (Kd.S_reads' HO_512001.out).2.1)
          (case side3 => exact mC (Kd.R_reads' HO_4.out).2.2)
          (case side4 => exact (Kd.R_reads' HO_4.out).2.1)
          rintro e w186 ⟨rfl, hb⟩
          refine ⟨_, rfl, ?_⟩
          have n0_ := Aside0.mk (Kd.R_below (mR HO_4.out) hb)
          have n1_ := Aside0.mk (Kd.R_below (mR HO_5.out) hb)
          have n2_ := Aside0.mk (Kd.S_below (mS HO_512001.out) hb)
          have n3_ := Aside0.mk (blk_below (g := gb511) (o := .cells #[.int .i64 t504, .slice Ao21 t505.length co21] 28 (0, 0)) ((mK (BK511.out))) hb)
          have n4_ := Aside0.mk (below_step mG hb)
          clear HO_4 HO_5 HO_512001 BK511 HB; have HO_4 := n0_; have HO_5 := n1_; have HO_512001 := n2_; have BK511 := n3_; have HB := n4_; clear n0_ n1_ n2_ n3_ n4_; (try clear hb)
          refine hK.out _ _ ⟨(blk_cell BK511.out 0).trans rfl, (blk_cell BK511.out 1).trans rfl⟩ (fun hHeld => ?_)
          clear hK K
          refine norm_ (a' := ?_) ?_ ?_
          rotate_left
          ·
           show Act.put _ (some 86) _ = _
           simp only [Act.put, List.setIfInBounds_toArray, List.set_cons_zero, List.set_cons_succ, i64_w, i32_w]
           rfl
          refine ps 7 87 (L_ 8 8) HT_.out ?_
          refine done_ (done_of HT_.out (by kernel_rfl)) ?_
          try go_wp2
          have n0_ := Aside0.mk (Kd.R_drew HO_4.out)
          have n1_ := Aside0.mk (Kd.R_drew HO_5.out)
          have n2_ := Aside0.mk (Kd.S_drew HO_512001.out)
          have n3_ := Aside0.mk (blk_drew BK511.out)
          have n4_ := Aside0.mk (below_drew1 HB.out)
          clear HO_4 HO_5 HO_512001 BK511 HB; have HO_4 := n0_; have HO_5 := n1_; have HO_512001 := n2_; have BK511 := n3_; have HB := n4_; clear n0_ n1_ n2_ n3_ n4_
          have q188 : (1 : Int) ≤ ((t508.length : Int) : Int) := mD
          obtain ⟨i0188, hi0188, _, hsz188, _⟩ := info_parts info3
          have hroom188 : t508.length ≤ co24 := (Kd.R_reads' HO_4.out).2.1
          have hC188 : Kd.C (Kd.int .i64) _ Ao24 t508.length t508 := (Kd.R_reads' HO_4.out).2.2
          have hcut188 := cut_from (P := Try.prog) 25 3 .i64 Try.underlying25 hi0188 1 hsz188 Ao24 t508.length co24 1 (by omega) q188
          have hr188 := Kd.C_drop (m := (1 : Int).toNat) (c := co24) hC188 (by omega) hroom188
          obtain ⟨A188, hA188⟩ : ∃ A1, A1 = (if co24 = (1 : Int).toNat then Ao24 else (Ao24 : Option Addr).map (·.add ((1 : Int).toNat * 1))) := ⟨_, rfl⟩
          obtain ⟨c188, hc188⟩ : ∃ c1, c1 = co24 - (1 : Int).toNat := ⟨_, rfl⟩
          have hy188 : y539.length = t508.length - (1 : Int).toNat := (by rw [Ny539.out, List.length_drop] <;> omega)
          rw [show (t508).drop (1 : Int).toNat = y539 from Ny539.out.symm] at hr188
          replace hr188 : Kd.C (Kd.int .i64) _ A188 y539.length y539 := (by rw [hA188]; exact hr188)
          rw [← hy188, ← hA188, ← hc188] at hcut188
          have HR542 := Aside0.mk hr188
          have HC542 := Aside0.mk (show y539.length ≤ c188 from by rw [hy188, hc188]; exact Nat.sub_le_sub_right hroom188 _)
          clear hr188 hC188 hroom188 hi0188 hsz188 hc188
          have KY188 := Aside0.mk hy188
          have KA188 := Aside0.mk hA188
          clear hy188 hA188
          have KL188 := Aside0.mk (show 1 ≤ t508.length from by omega)
          replace q188 := eq_true q188
          refine start_ (n := 12) (S := fun w' => w'.cell? ⟨gb511, 0, none⟩ = some (.int .i64 t504) ∧ w'.cell? ⟨gb511, 1, none⟩ = some (.slice Ao21 t505.length co21)) (ds := []) (L_ 0 12) (by kernel_rfl) rfl rfl ⟨(blk_cell BK511.out 0).trans rfl, (blk_cell BK511.out 1).trans rfl⟩ (fun hHeld => ?_); refine with_tabW laws_FnFree.tab16 laws_FnFree.bits16 (fun HT_ HW_ => ?_)
          generalize w186.drew = w187 at HO_4 HO_5 HO_512001 BK511 HB HR542 hHeld ⊢
          refine ps 0 88 (L_ 1 12) HT_.out ?_
          refine ps 1 89 (L_ 2 12) HT_.out ?_
          refine ps 2 90 (L_ 3 12) HT_.out ?_
          refine ps 3 91 (L_ 4 12) HT_.out ?_
          refine ps 5 93 #[true, true, true, true, false, true, false, false, false, false, false, false] HT_.out ?_
          refine ps 6 94 #[true, true, true, true, false, true, true, false, false, false, false, false] HT_.out ?_
          refine ps 8 96 #[true, true, true, true, false, true, true, false, true, false, false, false] HT_.out ?_
          refine take_ (i := 4) (N := some 92) (v := ?_) (a' := ?_) #[true, true, true, true, true, true, true, false, true, false, false, false] rfl rfl (take_ofW HT_.out HW_.out (by kernel_rfl)) (fun _ _ _ h => h) (Or.inl ⟨by rfl, ?_⟩) hHeld ?_ ?_
          rotate_left
          ·
           rintro w' ⟨s0, s1⟩
           go_simp
           with_reducible rfl
          rotate_left
          ·
           simp only [Act.put, List.setIfInBounds_toArray, List.set_cons_zero, List.set_cons_succ, i64_w, i32_w]
           rfl
          refine one_ (i := 7) (N := some 95) (L_ 9 12) rfl rfl (one_of HT_.out (by kernel_rfl)) (by decide) (fun K hK => ?_)
          refine goes_ Try.func39 (by kernel_rfl) rfl #[.agg #[.int .i64 t504, .slice Ao21 t505.length co21], .slice A188 y539.length c188] (by rfl) rfl rfl mA ?_
          with_reducible refine (impl_DefendedBy.calls kj158 t504 _ _ t505 _ _ y539 t543 _ ?side1 ?side2 ?side3 ?side4 A174.out).mono ?_
          (case side1 => exact mC (Kd.S_reads' HO_512001.out).2.2)
          (case side2 => exact (Kd.S_reads' HO_512001.out).2.1)
          (case side3 => repeat (first | exact (mC HR542.out) | (with_reducible refine Kd.C_alloc ?_ _) | (with_reducible refine Kd.C_drewN ?_ _) | (with_reducible refine Kd.C_drew ?_)))
          (case side4 => exact HC542.out)
          rintro e w189 ⟨v544, rfl, ho0, hb⟩
          refine ⟨_, rfl, ?_⟩
          have n0_ := Aside0.mk (Kd.R_elder' (mR HO_4.out) (Kd.R_base ho0) hb)
          have n1_ := Aside0.mk (Kd.R_elder' (mR HO_5.out) (Kd.R_base ho0) hb)
          have n2_ := Aside0.mk (Kd.S_elder' (mS HO_512001.out) (Kd.R_base ho0) hb)
          have n3_ := Aside0.mk (Kd.R_lower (Kd.R_new' (Kd.R_new' ho0 (Kd.R_lt (mR HO_4.out))) (Kd.R_lt (mR HO_5.out))) (below_size mG))
          have n4_ := Aside0.mk (blk_below (g := gb511) (o := .cells #[.int .i64 t504, .slice Ao21 t505.length co21] 28 (0, 0)) ((mK (BK511.out))) hb)
          have n5_ := Aside0.mk (Kd.C_below (mC HR542.out) hb)
          have n6_ := Aside0.mk (below_step mG hb)
          clear HO_4 HO_5 HO_512001 BK511 HR542 HB; have HO_4 := n0_; have HO_5 := n1_; have HO_512001 := n2_; have HO545 := n3_; have BK511 := n4_; have HR542 := n5_; have HB := n6_; clear n0_ n1_ n2_ n3_ n4_ n5_ n6_; (try clear hb); (try clear ho0)
          obtain ⟨Ao190, co190, eo190⟩ := Kd.R_slice HO545.out
          (first | subst eo190 | (injection eo190 with f1_ f2_ f3_; have f4_ := f1_.symm; have f5_ := f3_.symm; clear f1_ f2_ f3_; subst f4_; subst f5_))
          refine hK.out _ _ ⟨(blk_cell BK511.out 0).trans rfl, (blk_cell BK511.out 1).trans rfl⟩ (fun hHeld => ?_)
          clear hK K
          refine norm_ (a' := ?_) ?_ ?_
          rotate_left
          ·
           show Act.put _ (some 95) _ = _
           simp only [Act.put, List.setIfInBounds_toArray, List.set_cons_zero, List.set_cons_succ, i64_w, i32_w]
           rfl
          refine one_ (i := 9) (N := some 97) (L_ 10 12) rfl rfl (one_of HT_.out (by kernel_rfl)) (by decide) (fun K hK => ?_)
          refine goes_ Try.func58 (by kernel_rfl) rfl #[.slice Ao190 t543.length co190, .slice Ao185 t528.length co185] (by rfl) rfl rfl mA ?_
          with_reducible refine (laws_within.calls kj158 _ _ t543 _ _ t528 false _ ?side1 ?side2 ?side3 ?side4 A175.out).mono ?_
          (case side1 => exact mC (Kd.R_reads' HO545.out).2.2)
          (case side2 => exact (Kd.R_reads' HO545.out).2.1)
          (case side3 => exact mC (Kd.R_reads' HO_5.out).2.2)
          (case side4 => exact (Kd.R_reads' HO_5.out).2.1)
          rintro e w' ⟨rfl, ⟨nd, rfl⟩⟩
          refine ⟨_, rfl, ?_⟩
          refine hK.out _ _ ⟨(blk_cell BK511.out 0).trans rfl, (blk_cell BK511.out 1).trans rfl⟩ (fun hHeld => ?_)
          clear hK K
          refine norm_ (a' := ?_) ?_ ?_
          rotate_left
          ·
           show Act.put _ (some 97) _ = _
           simp only [Act.put, List.setIfInBounds_toArray, List.set_cons_zero, List.set_cons_succ, i64_w, i32_w]
           rfl
          refine ps 10 98 (L_ 11 12) HT_.out ?_
          refine ps 11 99 (L_ 12 12) HT_.out ?_
          refine done_ (done_of HT_.out (by kernel_rfl)) ?_
          try go_wp2
          go_ret
          exact ⟨mE, mG⟩
         subst c176
         rw [if_pos rfl] at H
         have H' := Aside0.mk H
         clear H
         try go_wp2
         have n0_ := Aside0.mk (Kd.R_drew HO_4.out)
         have n1_ := Aside0.mk (Kd.R_drew HO_5.out)
         have n2_ := Aside0.mk (Kd.S_drew HO_512001.out)
         have n3_ := Aside0.mk (blk_drew BK511.out)
         have n4_ := Aside0.mk (below_drew1 HB.out)
         clear HO_4 HO_5 HO_512001 BK511 HB; have HO_4 := n0_; have HO_5 := n1_; have HO_512001 := n2_; have BK511 := n3_; have HB := n4_; clear n0_ n1_ n2_ n3_ n4_
         obtain ⟨Ao178, co178, eo178⟩ := Kd.R_slice HO_5.out
         (first | subst eo178 | (injection eo178 with f1_ f2_ f3_; have f4_ := f1_.symm; have f5_ := f3_.symm; clear f1_ f2_ f3_; subst f4_; subst f5_))
         refine start_ (n := 8) (S := fun w' => w'.cell? ⟨gb511, 0, none⟩ = some (.int .i64 t504) ∧ w'.cell? ⟨gb511, 1, none⟩ = some (.slice Ao21 t505.length co21)) (ds := []) (L_ 0 8) (by kernel_rfl) rfl rfl ⟨(blk_cell BK511.out 0).trans rfl, (blk_cell BK511.out 1).trans rfl⟩ (fun hHeld => ?_); refine with_tabW laws_FnFree.tab14 laws_FnFree.bits14 (fun HT_ HW_ => ?_)
         generalize wc.drew = w177 at HO_4 HO_5 HO_512001 BK511 HB hHeld ⊢
         refine ps 0 80 (L_ 1 8) HT_.out ?_
         refine ps 1 81 (L_ 2 8) HT_.out ?_
         refine ps 4 84 #[true, true, false, false, true, false, false, false] HT_.out ?_
         refine ps 5 85 #[true, true, false, false, true, true, false, false] HT_.out ?_
         refine take_ (i := 3) (N := some 83) (v := ?_) (a' := ?_) #[true, true, false, true, true, true, false, false] rfl rfl (take_ofW HT_.out HW_.out (by kernel_rfl)) (fun _ _ _ h => h) (Or.inl ⟨by rfl, ?_⟩) hHeld ?_ ?_
         rotate_left
         ·
          rintro w' ⟨s0, s1⟩
          go_simp
          with_reducible rfl
         rotate_left
         ·
          simp only [Act.put, List.setIfInBounds_toArray, List.set_cons_zero, List.set_cons_succ, i64_w, i32_w]
          rfl
         refine one_ (i := 2) (N := some 82) (L_ 6 8) rfl rfl (one_of HT_.out (by kernel_rfl)) (by decide) (fun K hK => ?_)
         refine goes_ Try.func51 (by kernel_rfl) rfl #[.slice Ao178 t528.length co178, .int .i64 x6_3] (by rfl) rfl rfl mA ?_
         with_reducible refine (laws_contains.calls kj158 _ _ t528 x6_3 t537 _ ?side1 ?side2 A166.out).mono ?_
         (case side1 => exact mC (Kd.R_reads' HO_5.out).2.2)
         (case side2 => exact (Kd.R_reads' HO_5.out).2.1)
         rintro e w' ⟨rfl, ⟨nd, rfl⟩⟩
         refine ⟨_, rfl, ?_⟩
         refine hK.out _ _ ⟨(blk_cell BK511.out 0).trans rfl, (blk_cell BK511.out 1).trans rfl⟩ (fun hHeld => ?_)
         clear hK K
         refine norm_ (a' := ?_) ?_ ?_
         rotate_left
         ·
          show Act.put _ (some 82) _ = _
          simp only [Act.put, List.setIfInBounds_toArray, List.set_cons_zero, List.set_cons_succ, i64_w, i32_w]
          rfl
         refine one_ (i := 6) (N := some 86) (L_ 7 8) rfl rfl (one_of HT_.out (by kernel_rfl)) (by decide) (fun K hK => ?_)
         refine goes_ Try.func35 (by kernel_rfl) rfl #[.agg #[.int .i64 t504, .slice Ao21 t505.length co21], .slice Ao24 t508.length co24, .int .i64 x6_3] (by rfl) rfl rfl mA ?_
         with_reducible refine (impl_Defends.calls kj158 t504 _ _ t505 _ _ t508 x6_3 t538 _ ?side1 ?side2 ?side3 ?side4 A167.out).mono ?_
         (case side1 => exact mC (Kd.S_reads' HO_512001.out).2.2)
         (case side2 => exact (Kd.S_reads' HO_512001.out).2.1)
         (case side3 => exact mC (Kd.R_reads' HO_4.out).2.2)
         (case side4 => exact (Kd.R_reads' HO_4.out).2.1)
         rintro e w179 ⟨rfl, hb⟩
         refine ⟨_, rfl, ?_⟩
         have n0_ := Aside0.mk (Kd.R_below (mR HO_4.out) hb)
         have n1_ := Aside0.mk (Kd.R_below (mR HO_5.out) hb)
         have n2_ := Aside0.mk (Kd.S_below (mS HO_512001.out) hb)
         have n3_ := Aside0.mk (blk_below (g := gb511) (o := .cells #[.int .i64 t504, .slice Ao21 t505.length co21] 28 (0, 0)) ((mK (BK511.out))) hb)
         have n4_ := Aside0.mk (below_step mG hb)
         clear HO_4 HO_5 HO_512001 BK511 HB; have HO_4 := n0_; have HO_5 := n1_; have HO_512001 := n2_; have BK511 := n3_; have HB := n4_; clear n0_ n1_ n2_ n3_ n4_; (try clear hb)
         refine hK.out _ _ ⟨(blk_cell BK511.out 0).trans rfl, (blk_cell BK511.out 1).trans rfl⟩ (fun hHeld => ?_)
         clear hK K
         refine norm_ (a' := ?_) ?_ ?_
         rotate_left
         ·
          show Act.put _ (some 86) _ = _
          simp only [Act.put, List.setIfInBounds_toArray, List.set_cons_zero, List.set_cons_succ, i64_w, i32_w]
          rfl
         refine ps 7 87 (L_ 8 8) HT_.out ?_
         refine done_ (done_of HT_.out (by kernel_rfl)) ?_
         try go_wp2
         have n0_ := Aside0.mk (Kd.R_drew HO_4.out)
         have n1_ := Aside0.mk (Kd.R_drew HO_5.out)
         have n2_ := Aside0.mk (Kd.S_drew HO_512001.out)
         have n3_ := Aside0.mk (blk_drew BK511.out)
         have n4_ := Aside0.mk (below_drew1 HB.out)
         clear HO_4 HO_5 HO_512001 BK511 HB; have HO_4 := n0_; have HO_5 := n1_; have HO_512001 := n2_; have BK511 := n3_; have HB := n4_; clear n0_ n1_ n2_ n3_ n4_
         have q181 : (1 : Int) ≤ ((t508.length : Int) : Int) := mD
         obtain ⟨i0181, hi0181, _, hsz181, _⟩ := info_parts info3
         have hroom181 : t508.length ≤ co24 := (Kd.R_reads' HO_4.out).2.1
         have hC181 : Kd.C (Kd.int .i64) _ Ao24 t508.length t508 := (Kd.R_reads' HO_4.out).2.2
         have hcut181 := cut_from (P := Try.prog) 25 3 .i64 Try.underlying25 hi0181 1 hsz181 Ao24 t508.length co24 1 (by omega) q181
         have hr181 := Kd.C_drop (m := (1 : Int).toNat) (c := co24) hC181 (by omega) hroom181
         obtain ⟨A181, hA181⟩ : ∃ A1, A1 = (if co24 = (1 : Int).toNat then Ao24 else (Ao24 : Option Addr).map (·.add ((1 : Int).toNat * 1))) := ⟨_, rfl⟩
         obtain ⟨c181, hc181⟩ : ∃ c1, c1 = co24 - (1 : Int).toNat := ⟨_, rfl⟩
         have hy181 : y539.length = t508.length - (1 : Int).toNat := (by rw [Ny539.out, List.length_drop] <;> omega)
         rw [show (t508).drop (1 : Int).toNat = y539 from Ny539.out.symm] at hr181
         replace hr181 : Kd.C (Kd.int .i64) _ A181 y539.length y539 := (by rw [hA181]; exact hr181)
         rw [← hy181, ← hA181, ← hc181] at hcut181
         have HR542 := Aside0.mk hr181
         have HC542 := Aside0.mk (show y539.length ≤ c181 from by rw [hy181, hc181]; exact Nat.sub_le_sub_right hroom181 _)
         clear hr181 hC181 hroom181 hi0181 hsz181 hc181
         have KY181 := Aside0.mk hy181
         have KA181 := Aside0.mk hA181
         clear hy181 hA181
         have KL181 := Aside0.mk (show 1 ≤ t508.length from by omega)
         replace q181 := eq_true q181
         refine start_ (n := 12) (S := fun w' => w'.cell? ⟨gb511, 0, none⟩ = some (.int .i64 t504) ∧ w'.cell? ⟨gb511, 1, none⟩ = some (.slice Ao21 t505.length co21)) (ds := []) (L_ 0 12) (by kernel_rfl) rfl rfl ⟨(blk_cell BK511.out 0).trans rfl, (blk_cell BK511.out 1).trans rfl⟩ (fun hHeld => ?_); refine with_tabW laws_FnFree.tab16 laws_FnFree.bits16 (fun HT_ HW_ => ?_)
         generalize w179.drew = w180 at HO_4 HO_5 HO_512001 BK511 HB HR542 hHeld ⊢
         refine ps 0 88 (L_ 1 12) HT_.out ?_
         refine ps 1 89 (L_ 2 12) HT_.out ?_
         refine ps 2 90 (L_ 3 12) HT_.out ?_
         refine ps 3 91 (L_ 4 12) HT_.out ?_
         refine ps 5 93 #[true, true, true, true, false, true, false, false, false, false, false, false] HT_.out ?_
         refine ps 6 94 #[true, true, true, true, false, true, true, false, false, false, false, false] HT_.out ?_
         refine ps 8 96 #[true, true, true, true, false, true, true, false, true, false, false, false] HT_.out ?_
         refine take_ (i := 4) (N := some 92) (v := ?_) (a' := ?_) #[true, true, true, true, true, true, true, false, true, false, false, false] rfl rfl (take_ofW HT_.out HW_.out (by kernel_rfl)) (fun _ _ _ h => h) (Or.inl ⟨by rfl, ?_⟩) hHeld ?_ ?_
         rotate_left
         ·
          rintro w' ⟨s0, s1⟩
          go_simp
          with_reducible rfl
         rotate_left
         ·
          simp only [Act.put, List.setIfInBounds_toArray, List.set_cons_zero, List.set_cons_succ, i64_w, i32_w]
          rfl
         refine one_ (i := 7) (N := some 95) (L_ 9 12) rfl rfl (one_of HT_.out (by kernel_rfl)) (by decide) (fun K hK => ?_)
         refine goes_ Try.func39 (by kernel_rfl) rfl #[.agg #[.int .i64 t504, .slice Ao21 t505.length co21], .slice A181 y539.length c181] (by rfl) rfl rfl mA ?_
         with_reducible refine (impl_DefendedBy.calls kj158 t504 _ _ t505 _ _ y539 t543 _ ?side1 ?side2 ?side3 ?side4 A174.out).mono ?_
         (case side1 => exact mC (Kd.S_reads' HO_512001.out).2.2)
         (case side2 => exact (Kd.S_reads' HO_512001.out).2.1)
         (case side3 => repeat (first | exact (mC HR542.out) | (with_reducible refine Kd.C_alloc ?_ _) | (with_reducible refine Kd.C_drewN ?_ _) | (with_reducible refine Kd.C_drew ?_)))
         (case side4 => exact HC542.out)
         rintro e w182 ⟨v544, rfl, ho0, hb⟩
         refine ⟨_, rfl, ?_⟩
         have n0_ := Aside0.mk (Kd.R_elder' (mR HO_4.out) (Kd.R_base ho0) hb)
         have n1_ := Aside0.mk (Kd.R_elder' (mR HO_5.out) (Kd.R_base ho0) hb)
         have n2_ := Aside0.mk (Kd.S_elder' (mS HO_512001.out) (Kd.R_base ho0) hb)
         have n3_ := Aside0.mk (Kd.R_lower (Kd.R_new' (Kd.R_new' ho0 (Kd.R_lt (mR HO_4.out))) (Kd.R_lt (mR HO_5.out))) (below_size mG))
         have n4_ := Aside0.mk (blk_below (g := gb511) (o := .cells #[.int .i64 t504, .slice Ao21 t505.length co21] 28 (0, 0)) ((mK (BK511.out))) hb)
         have n5_ := Aside0.mk (Kd.C_below (mC HR542.out) hb)
         have n6_ := Aside0.mk (below_step mG hb)
         clear HO_4 HO_5 HO_512001 BK511 HR542 HB; have HO_4 := n0_; have HO_5 := n1_; have HO_512001 := n2_; have HO545 := n3_; have BK511 := n4_; have HR542 := n5_; have HB := n6_; clear n0_ n1_ n2_ n3_ n4_ n5_ n6_; (try clear hb); (try clear ho0)
         obtain ⟨Ao183, co183, eo183⟩ := Kd.R_slice HO545.out
         (first | subst eo183 | (injection eo183 with f1_ f2_ f3_; have f4_ := f1_.symm; have f5_ := f3_.symm; clear f1_ f2_ f3_; subst f4_; subst f5_))
         refine hK.out _ _ ⟨(blk_cell BK511.out 0).trans rfl, (blk_cell BK511.out 1).trans rfl⟩ (fun hHeld => ?_)
         clear hK K
         refine norm_ (a' := ?_) ?_ ?_
         rotate_left
         ·
          show Act.put _ (some 95) _ = _
          simp only [Act.put, List.setIfInBounds_toArray, List.set_cons_zero, List.set_cons_succ, i64_w, i32_w]
          rfl
         refine one_ (i := 9) (N := some 97) (L_ 10 12) rfl rfl (one_of HT_.out (by kernel_rfl)) (by decide) (fun K hK => ?_)
         refine goes_ Try.func58 (by kernel_rfl) rfl #[.slice Ao183 t543.length co183, .slice Ao178 t528.length co178] (by rfl) rfl rfl mA ?_
         with_reducible refine (laws_within.calls kj158 _ _ t543 _ _ t528 true _ ?side1 ?side2 ?side3 ?side4 A175.out).mono ?_
         (case side1 => exact mC (Kd.R_reads' HO545.out).2.2)
         (case side2 => exact (Kd.R_reads' HO545.out).2.1)
         (case side3 => exact mC (Kd.R_reads' HO_5.out).2.2)
         (case side4 => exact (Kd.R_reads' HO_5.out).2.1)
         rintro e w' ⟨rfl, ⟨nd, rfl⟩⟩
         refine ⟨_, rfl, ?_⟩
         refine hK.out _ _ ⟨(blk_cell BK511.out 0).trans rfl, (blk_cell BK511.out 1).trans rfl⟩ (fun hHeld => ?_)
         clear hK K
         refine norm_ (a' := ?_) ?_ ?_
         rotate_left
         ·
          show Act.put _ (some 97) _ = _
          simp only [Act.put, List.setIfInBounds_toArray, List.set_cons_zero, List.set_cons_succ, i64_w, i32_w]
          rfl
         refine ps 10 98 (L_ 11 12) HT_.out ?_
         refine ps 11 99 (L_ 12 12) HT_.out ?_
         refine done_ (done_of HT_.out (by kernel_rfl)) ?_
         try go_wp2
         go_roundg kj158
         case measure => have := HJ16.out; have := HJ142.out; have := HK3.out; have := HJ158.out; omega
         case rel => exact ⟨(wrap64 (x6_3 + 1)), mF, H', ⟨by have := HJ16.out; have := HJ142.out; have := HK3.out; have := HJ158.out; omega⟩, ⟨by (with_reducible repeat (first | apply Kd.R_alloc | apply Kd.R_drewN | apply Kd.R_drew)); exact Kd.R_mono HO_4.out (fun _ hk => hk.1)⟩, ⟨by (with_reducible repeat (first | apply Kd.R_alloc | apply Kd.R_drewN | apply Kd.R_drew)); exact Kd.R_mono HO_5.out (fun _ hk => hk.1)⟩, ⟨by (with_reducible repeat (first | apply Kd.S_alloc | apply Kd.S_drewN | apply Kd.S_drew)); exact Kd.S_mono HO_512001.out (fun _ hk => ⟨hk.1.1, hk.1.2⟩)⟩, ⟨(mK (BK511.out))⟩, ⟨mG⟩⟩
/-- THE ONE PURE STATEMENT of laws_FnFree: yours. -/
def laws_FnFree.Pure : Prop := ∀ (l0 : List Int), l0.length ≤ maxLen → l0.length * 1 ≤ 140737488351232 → (∀ x ∈ l0, (Lit.int .u8 x).wf = true) → ∃ k, laws_FnFree.f k l0 = some true
theorem laws_FnFree.walk (P : laws_FnFree.Pure) (a0 : Option Addr) (len0 cap0 : Nat) (z0 : List Int) (w : World) (w0 : (a0 = none ∧ len0 = 0 ∧ cap0 = 0 ∧ z0 = []) ∨ ∃ x, a0 = some x ∧ len0 ≤ cap0 ∧ cap0 ≤ maxLen ∧ z0.length = cap0 ∧ (∀ i, i < z0.length → w.cell? (x.add i) = some (.int .u8 (z0.getD i 0))) ∧ ∀ n ∈ z0, (Lit.int .u8 n).wf = true) (y0 : len0 * 1 ≤ 140737488351232) :
  Calls Try.prog 13 #[.slice a0 len0 cap0] w fun e w' => e = .returned (.bool true) ∧ Below w.heap.size w w' := by
 obtain ⟨l0, rfl, hr0, hm0, hw0, hc0⟩ := ReadsInt.ofRowC w0
 obtain ⟨k, h⟩ := P l0 hm0 y0 hw0
 refine (laws_FnFree.calls k _ _ l0 true w (Kd.C_of_reads (d := (0 : Int)) (h1 := fun _ => rfl) hr0) hc0 h).mono ?_
 rintro e w' ⟨rfl, hd⟩
 exact ⟨rfl, hd⟩

end Go.Proofs.Ytelkfhlnejlheaa.GFnFree
