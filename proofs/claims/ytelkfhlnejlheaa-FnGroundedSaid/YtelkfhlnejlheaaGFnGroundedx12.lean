-- Written by gprint.py, a program of this session, with the printer of the kit as its library. Lean checks it.
import Derived.Test.YtelkfhlnejlheaaGFnGroundedx0
import Derived.Test.YtelkfhlnejlheaaGFnGroundedx2
import Derived.Test.YtelkfhlnejlheaaGFnGroundedx3
import Derived.Test.YtelkfhlnejlheaaGFnGroundedx4
import Derived.Test.YtelkfhlnejlheaaGFnGroundedx5
import Derived.Test.YtelkfhlnejlheaaGFnGroundedx6
import Derived.Test.YtelkfhlnejlheaaGFnGroundedx8
import Derived.Test.YtelkfhlnejlheaaGFnGroundedx11
namespace Go.Proofs.Ytelkfhlnejlheaa.GFnGrounded
open Go.RowKit Go.Proofs.YtelkfhlnejlheaaW.PrintWords Go.Proofs.YtelkfhlnejlheaaW.PrintLast Go.Proofs.YtelkfhlnejlheaaW.PrintMore
attribute [local go_sem] max2_int min2_int max_two min_two max_three min_three max_four min_four   -- for this text's walks alone
set_option linter.unusedVariables false
set_option linter.unusedSimpArgs false

/-! ### laws_FnGrounded: function 16 -/
mutual
def laws_FnGrounded.j0 : Nat → List Int → List Int → List ByteArray → Bool → Int → List (List Int) → Option (Bool)
 | 0, _, _, _, _, _, _ => none
 | k + 1, x0, x4, x5, x45, x572000, x572001 => if x45 = true then (some false) else ((impl_OpenClaims.f k x572000 x572001).bind fun t582 => (laws_FnGrounded.l0 k x0 x4 x5 t582 0 x572000 x572001))
def laws_FnGrounded.l0 : Nat → List Int → List Int → List ByteArray → List Int → Int → Int → List (List Int) → Option (Bool)
 | 0, _, _, _, _, _, _, _ => none
 | k + 1, x0, x4, x5, x6, x7, x572000, x572001 => if x7 < x572000 then ((impl_RoundOf.f k x572000 x572001 x7).bind fun t585 => (if 0 ≤ x7 then (if x7 < (x5.length : Int) then ((laws_contains.f k x4 x7).bind fun t587 => (if (((rdOf ByteArray.empty x5 x7).toList == ([105, 110] : List UInt8)) != t587) = true then (some false) else ((impl_HitBy.f k x572000 x572001 x4).bind fun t589 => ((laws_contains.f k t589 x7).bind fun t592 => (if (((rdOf ByteArray.empty x5 x7).toList == ([111, 117, 116] : List UInt8)) != t592) = true then (some false) else ((laws_contains.f k x6 x7).bind fun t594 => (if (((rdOf ByteArray.empty x5 x7).toList == ([111, 112, 101, 110] : List UInt8)) != t594) = true then (some false) else ((laws_contains.f k x4 x7).bind fun t595 => (if ((decide (t585 > 0)) != t595) = true then (some false) else ((impl_AttackersOf.f k x572000 x572001 x7).bind fun t596 => (if ((t585 == 1) != ((t596.length : Int) == 0)) = true then (some false) else (laws_FnGrounded.l0 k x0 x4 x5 x6 (wrap64 (x7 + 1)) x572000 x572001)))))))))))) else (none)) else (none))) else ((spec_DrawIsComplete.f k x0).bind fun bt599 => ((impl_IsComplete.f k bt599.1 bt599.2.1 bt599.2.2).bind fun t607 => (if t607 = true then ((impl_Grounded.f k bt599.1 bt599.2.1).bind fun t608 => ((laws_within.f k t608 bt599.2.2).bind fun t611 => (some t611))) else (some true))))
end
def laws_FnGrounded.f (k : Nat) (l0 : List Int) : Option (Bool) := (laws_big.f l0).bind fun t566 => (if t566 = true then (some true) else ((spec_DrawGrounded.f k l0).bind fun bt567 => ((impl_Grounded.f k bt567.1 bt567.2).bind fun t572 => ((impl_Labels.f k bt567.1 bt567.2).bind fun t575 => ((impl_IsGraph.f k bt567.1 bt567.2).bind fun t578 => ((spec_IsGraph.f k bt567.1 bt567.2).bind fun t579 => (if (t578 != t579) = true then (some false) else ((impl_IsGraph.f k bt567.1 bt567.2).bind fun t580 => (if t580 = true then ((impl_IsComplete.f k bt567.1 bt567.2 t572).bind fun t581 => (if t581 = true then (laws_FnGrounded.j0 k l0 t572 t575 ((t575.length : Int) != bt567.1) bt567.1 bt567.2) else (laws_FnGrounded.j0 k l0 t572 t575 true bt567.1 bt567.2))) else (if (t572.length : Int) = 0 then (some ((t575.length : Int) == 0)) else (some false)))))))))))
theorem laws_FnGrounded.mono_l : ∀ k, (∀ y0 y1 y2 y3 y4 y5, LeO (laws_FnGrounded.j0 k y0 y1 y2 y3 y4 y5) (laws_FnGrounded.j0 (k + 1) y0 y1 y2 y3 y4 y5)) ∧ (∀ y0 y1 y2 y3 y4 y5 y6, LeO (laws_FnGrounded.l0 k y0 y1 y2 y3 y4 y5 y6) (laws_FnGrounded.l0 (k + 1) y0 y1 y2 y3 y4 y5 y6))
 | 0 => ⟨fun _ _ _ _ _ _ r h => by simp [laws_FnGrounded.j0] at h, fun _ _ _ _ _ _ _ r h => by simp [laws_FnGrounded.l0] at h⟩
 | k + 1 => by
  obtain ⟨ih0, ih1⟩ := laws_FnGrounded.mono_l k
  refine ⟨?_, ?_⟩
  ·
   intro y0 y1 y2 y3 y4 y5
   unfold laws_FnGrounded.j0
   repeat' with_reducible first | exact ih0 _ _ _ _ _ _ | exact ih1 _ _ _ _ _ _ _ | exact impl_AttackersOf.mono _ _ _ _ | exact impl_Grounded.mono _ _ _ | exact impl_HitBy.mono _ _ _ _ | exact impl_IsComplete.mono _ _ _ _ | exact impl_IsGraph.mono _ _ _ | exact impl_Labels.mono _ _ _ | exact impl_OpenClaims.mono _ _ _ | exact impl_RoundOf.mono _ _ _ _ | exact laws_contains.mono _ _ _ | exact laws_within.mono _ _ _ | exact spec_DrawGrounded.mono _ _ | exact spec_DrawIsComplete.mono _ _ | exact spec_IsGraph.mono _ _ _ | exact LeO.refl _ | exact LeO.none _ | refine LeO.ite ?_ ?_ | refine LeO.bind ?_ (fun _ => ?_)
  ·
   intro y0 y1 y2 y3 y4 y5 y6
   unfold laws_FnGrounded.l0
   repeat' with_reducible first | exact ih0 _ _ _ _ _ _ | exact ih1 _ _ _ _ _ _ _ | exact impl_AttackersOf.mono _ _ _ _ | exact impl_Grounded.mono _ _ _ | exact impl_HitBy.mono _ _ _ _ | exact impl_IsComplete.mono _ _ _ _ | exact impl_IsGraph.mono _ _ _ | exact impl_Labels.mono _ _ _ | exact impl_OpenClaims.mono _ _ _ | exact impl_RoundOf.mono _ _ _ _ | exact laws_contains.mono _ _ _ | exact laws_within.mono _ _ _ | exact spec_DrawGrounded.mono _ _ | exact spec_DrawIsComplete.mono _ _ | exact spec_IsGraph.mono _ _ _ | exact LeO.refl _ | exact LeO.none _ | refine LeO.ite ?_ ?_ | refine LeO.bind ?_ (fun _ => ?_)
theorem laws_FnGrounded.mono : ∀ a0 k, LeO (laws_FnGrounded.f k a0) (laws_FnGrounded.f (k + 1) a0) := by
 intro a0 k
 obtain ⟨ih0, ih1⟩ := laws_FnGrounded.mono_l k
 unfold laws_FnGrounded.f
 repeat' with_reducible first | exact ih0 _ _ _ _ _ _ | exact ih1 _ _ _ _ _ _ _ | exact impl_AttackersOf.mono _ _ _ _ | exact impl_Grounded.mono _ _ _ | exact impl_HitBy.mono _ _ _ _ | exact impl_IsComplete.mono _ _ _ _ | exact impl_IsGraph.mono _ _ _ | exact impl_Labels.mono _ _ _ | exact impl_OpenClaims.mono _ _ _ | exact impl_RoundOf.mono _ _ _ _ | exact laws_contains.mono _ _ _ | exact laws_within.mono _ _ _ | exact spec_DrawGrounded.mono _ _ | exact spec_DrawIsComplete.mono _ _ | exact spec_IsGraph.mono _ _ _ | exact LeO.refl _ | exact LeO.none _ | refine LeO.ite ?_ ?_ | refine LeO.bind ?_ (fun _ => ?_)
def laws_FnGrounded.T17 : Bool × List (List Nat × List Nat) := (true, [([], []), ([], []), ([0, 1], [0, 1]), ([2], [2]), ([3], [3]), ([], []), ([], []), ([5, 6], [5, 6]), ([4, 7], [4, 7]), ([8, 7], [8]), ([9], [9]), ([9], [9]), ([10, 11, 9], [9, 10, 11]), ([12, 9], [9, 12]), ([13, 9], [9, 13]), ([9], [9]), ([9], [9]), ([15, 16, 9, 9], [9, 15, 16]), ([9], [9]), ([17, 18, 17, 9], [9, 17, 18]), ([14, 19, 9], [9, 14, 19]), ([9, 20], [9, 20]), ([21, 19], [21]), ([22], [22]), ([22], [22]), ([23, 24, 22], [22, 23, 24]), ([25, 22], [22, 25]), ([26, 22], [22, 26]), ([22], [22]), ([22], [22]), ([28, 29, 22, 22], [22, 28, 29]), ([27, 30, 22], [22, 27, 30]), ([22, 31], [22, 31]), ([32, 30], [32]), ([33], [33]), ([34, 33], [33, 34]), ([33], [33]), ([33], [33]), ([36, 37, 33, 33], [33, 36, 37]), ([35, 38, 33], [33, 35, 38]), ([33, 39], [33, 39]), ([40, 38], [40]), ([41], [41]), ([42, 41], [41, 42]), ([41], [41]), ([41], [41]), ([44, 45, 41, 41], [41, 44, 45]), ([46, 41], [41, 46]), ([47, 41], [41, 47]), ([43, 48, 41], [41, 43, 48]), ([41, 49], [41, 49])])
def laws_FnGrounded.B17 : List Nat := [0, 0, 3, 7, 15, 0, 0, 96, 255, 511, 1023, 1023, 4095, 8191, 16383, 1023, 1023, 99327, 1023, 492543, 1048575, 2097151, 4194303, 8388607, 8388607, 33554431, 67108863, 134217727, 8388607, 8388607, 813694975, 2147483647, 4294967295, 8589934591, 17179869183, 34359738367, 17179869183, 17179869183, 223338299391, 549755813887, 1099511627775, 2199023255551, 4398046511103, 8796093022207, 4398046511103, 4398046511103, 57174604644351, 127543348822015, 268280837177343, 562949953421311, 1125899906842623]
theorem laws_FnGrounded.tab17 : rtab .any (opsOf Try.f16 17) = laws_FnGrounded.T17 := by kernel_rfl
theorem laws_FnGrounded.bits17 : waitsOk laws_FnGrounded.T17.2 laws_FnGrounded.B17 = true := by kernel_rfl
set_option maxHeartbeats 8000000 in
set_option maxRecDepth 100000 in
theorem laws_FnGrounded.calls (k : Nat) (A0 : Option Addr) (c0 : Nat) (l0 : List Int) (r : Bool) (w : World) (hr0 : Kd.C (Kd.int .u8) w A0 l0.length l0) (hc0 : l0.length ≤ c0) (h : laws_FnGrounded.f k l0 = some r) :
  Calls Try.prog 16 #[.slice A0 l0.length c0] w fun e w' => e = .returned (.bool r) ∧ Below w.heap.size w w' := by
 have hu28 := Try.underlying28
 have HR0 := Aside0.mk hr0
 have HC0 := Aside0.mk hc0
 clear hr0 hc0
 have HB := Aside0.mk (Below.refl w.heap.size w)
 have H : ((laws_big.f l0).bind fun t566 => (if t566 = true then (some true) else ((spec_DrawGrounded.f k l0).bind fun bt567 => ((impl_Grounded.f k bt567.1 bt567.2).bind fun t572 => ((impl_Labels.f k bt567.1 bt567.2).bind fun t575 => ((impl_IsGraph.f k bt567.1 bt567.2).bind fun t578 => ((spec_IsGraph.f k bt567.1 bt567.2).bind fun t579 => (if (t578 != t579) = true then (some false) else ((impl_IsGraph.f k bt567.1 bt567.2).bind fun t580 => (if t580 = true then ((impl_IsComplete.f k bt567.1 bt567.2 t572).bind fun t581 => (if t581 = true then (laws_FnGrounded.j0 k l0 t572 t575 ((t575.length : Int) != bt567.1) bt567.1 bt567.2) else (laws_FnGrounded.j0 k l0 t572 t575 true bt567.1 bt567.2))) else (if (t572.length : Int) = 0 then (some ((t575.length : Int) == 0)) else (some false)))))))))))) = some r := h
 clear h
 replace H := Option.bind_eq_some_iff.mp H
 obtain ⟨t566, A20, H⟩ := H
 have A2 := Aside0.mk A20
 clear A20
 by_cases c3 : t566 = true
 ·
  subst c3
  rw [if_pos rfl] at H
  obtain rfl := Option.some.inj H
  go_enter Try.func16, Try.ntmps16
  go_wp2_with (first | ((with_reducible refine gate_callee (f := 46) rfl ?_); refine goesL_ (some 12) rfl rfl Try.func46 (by kernel_rfl) rfl #[.slice A0 l0.length c0] rfl mA ?_; (with_reducible refine (laws_big.calls _ _ l0 true _ ?side1 ?side2 A2.out).mono ?_); (case side1 => exact mC HR0.out); (case side2 => exact HC0.out); rintro e w' ⟨rfl, ⟨nd, rfl⟩⟩; refine ⟨_, rfl, ?_⟩))
  go_ret
  exact ⟨mE, mB HB.out⟩
 replace c3 := Bool.eq_false_iff.mpr c3
 subst c3
 rw [if_neg (show ¬ (false = true) by decide)] at H
 replace H := Option.bind_eq_some_iff.mp H
 obtain ⟨⟨t567, t568⟩, A40, H⟩ := H
 try dsimp only at H
 have A4 := Aside0.mk A40
 clear A40
 replace H := Option.bind_eq_some_iff.mp H
 obtain ⟨t572, A50, H⟩ := H
 have A5 := Aside0.mk A50
 clear A50
 replace H := Option.bind_eq_some_iff.mp H
 obtain ⟨t575, A60, H⟩ := H
 have A6 := Aside0.mk A60
 clear A60
 replace H := Option.bind_eq_some_iff.mp H
 obtain ⟨t578, A70, H⟩ := H
 have A7 := Aside0.mk A70
 clear A70
 replace H := Option.bind_eq_some_iff.mp H
 obtain ⟨t579, A80, H⟩ := H
 have A8 := Aside0.mk A80
 clear A80
 by_cases c9 : (t578 != t579) = true
 ·
  rw [if_pos c9] at H
  have c9b0 : (t578 != t579) = true := c9
  (try (have c9b1 : decide (t578 = t579) = false := by simpa using c9))
  (try (have c9b2 : (t578 == t579) = false := by simpa using c9))
  (try (have c9b3 : ¬ (t578 = t579) := by simpa using c9))
  clear c9
  obtain rfl := Option.some.inj H
  go_enter Try.func16, Try.ntmps16
  try go_wp2_with (first | ((with_reducible refine gate_callee (f := 46) rfl ?_); refine goesL_ (some 12) rfl rfl Try.func46 (by kernel_rfl) rfl #[.slice A0 l0.length c0] rfl mA ?_; (with_reducible refine (laws_big.calls _ _ l0 false _ ?side1 ?side2 A2.out).mono ?_); (case side1 => exact mC HR0.out); (case side2 => exact HC0.out); rintro e w' ⟨rfl, ⟨nd, rfl⟩⟩; refine ⟨_, rfl, ?_⟩) | ((with_reducible refine gate_callee (f := 66) rfl ?_); refine goesL_ (some 14) rfl rfl Try.func66 (by kernel_rfl) rfl #[.slice A0 l0.length c0] rfl mA ?_; (with_reducible refine (spec_DrawGrounded.calls k _ _ l0 t567 t568 _ ?side1 ?side2 A4.out).mono ?_); (case side1 => exact mC HR0.out); (case side2 => exact HC0.out); rintro e w10 ⟨v569, rfl, ho0, hb⟩; refine ⟨_, rfl, ?_⟩; have n0_ := Aside0.mk (Kd.S_lower ho0 (below_size (mB HB.out))); have n1_ := Aside0.mk (below_step (mB HB.out) hb); clear HB; have HO570 := n0_; have HB := n1_; clear n0_ n1_; (try clear hb); (try clear ho0)) | ((with_reducible refine gate_dst (N := 3) rfl ?_); refine box_event ?hg (N := 3) ?hd (cs := #[.int .i64 0, .slice none 0 0]) (t := 28) ?hr ?_; (case hd => rfl); (case hg => rfl); (case hr => first | (go_simp; done) | (go_simp; rfl)); intro gb571 hg w11 hbox hb; have n0_ := Aside0.mk (Kd.S_below (mS HO570.out) hb); have n1_ := Aside0.mk (below_step (mB HB.out) hb); have n2_ := Aside0.mk (hbox); have n3_ := Aside0.mk ((by rw [hg]; exact (below_size (mB HB.out)) : w.heap.size ≤ gb571)); have n4_ := Aside0.mk ((by rw [hg]; exact (below_size (mB HB.out)) : w.heap.size ≤ gb571)); clear HO570 HB; have HO570 := n0_; have HB := n1_; have BK571 := n2_; have GW571 := n3_; have GE571 := n4_; clear n0_ n1_ n2_ n3_ n4_; clear hb hbox hg; have hcz12_0 : w11.cell? ⟨gb571, 0, none⟩ = some (.int .i64 0) := (blk_cell BK571.out 0).trans rfl; have hcz12_1 : w11.cell? ⟨gb571, 1, none⟩ = some (.slice none 0 0) := (blk_cell BK571.out 1).trans rfl; have hfz12_0 := blk_frozen BK571.out 0; have hfz12_1 := blk_frozen BK571.out 1; obtain ⟨Ao13, co13, eo13⟩ := Kd.S_slice HO570.out; subst eo13) | ((with_reducible refine gate_callee (f := 45) rfl ?_); refine goesL_ (some 16) rfl rfl Try.func45 (by kernel_rfl) rfl #[.agg #[.int .i64 t567, .slice Ao13 t568.length co13]] rfl mA ?_; (with_reducible refine (impl_Grounded.calls k t567 _ _ t568 t572 _ ?side1 ?side2 A5.out).mono ?_); (case side1 => refine (Kd.S_reads' (e := 25) (base := w.heap.size) (ok := fun k_ => True) (n := t568.length) (c := co13) ?_).2.2; exact (mS ((Kd.S_mono (Kd.S_far (p := ⟨gb571, 1, none⟩) (Kd.S_far (p := ⟨gb571, 0, none⟩) (Kd.S_types HO570.out BK571.out (by decide)) (fun _ hk => hk.2) (.int .i64 t567)) (fun _ hk => hk.2) (.slice Ao13 t568.length co13)) (fun _ h_ => h_.1))))); (case side2 => exact (Kd.S_reads' HO570.out).2.1); rintro e w14 ⟨v573, rfl, ho0, hb⟩; refine ⟨_, rfl, ?_⟩; have n0_ := Aside0.mk (Kd.S_elder' (mS ((Kd.S_mono (Kd.S_far (p := ⟨gb571, 1, none⟩) (Kd.S_far (p := ⟨gb571, 0, none⟩) (Kd.S_types HO570.out BK571.out (by decide)) (fun _ hk => hk.2) (.int .i64 t567)) (fun _ hk => hk.2) (.slice Ao13 t568.length co13)) (fun _ h_ => h_.1)))) (Kd.R_base ho0) hb); have n1_ := Aside0.mk (Kd.R_lower ho0 (below_size mG)); have n2_ := Aside0.mk (blk_below (g := gb571) (o := .cells #[.int .i64 t567, .slice Ao13 t568.length co13] 28 (0, 0)) (by refine pK ?_; refine blk_put (cs := #[.int .i64 t567, .slice none 0 0]) ?_ 1 _ rfl; refine pK ?_; refine blk_put (cs := #[.int .i64 0, .slice none 0 0]) ?_ 0 _ rfl; refine pK ?_; exact BK571.out) hb); have n3_ := Aside0.mk (below_step mG hb); clear HO570 BK571 HB; have HO570 := n0_; have HO574 := n1_; have BK571 := n2_; have HB := n3_; clear n0_ n1_ n2_ n3_; (try clear hb); (try clear ho0); have hcz15_0 : w14.cell? ⟨gb571, 0, none⟩ = some (.int .i64 t567) := (blk_cell BK571.out 0).trans rfl; have hcz15_1 : w14.cell? ⟨gb571, 1, none⟩ = some (.slice Ao13 t568.length co13) := (blk_cell BK571.out 1).trans rfl; have hfz15_0 := blk_frozen BK571.out 0; have hfz15_1 := blk_frozen BK571.out 1) | ((with_reducible refine gate_callee (f := 62) rfl ?_); refine goesL_ (some 18) rfl rfl Try.func62 (by kernel_rfl) rfl #[.agg #[.int .i64 t567, .slice Ao13 t568.length co13]] rfl mA ?_; (with_reducible refine (impl_Labels.calls k t567 _ _ t568 t575 _ ?side1 ?side2 A6.out).mono ?_); (case side1 => exact mC (Kd.S_reads' HO570.out).2.2); (case side2 => exact (Kd.S_reads' HO570.out).2.1); rintro e w16 ⟨v576, rfl, ho0, hb⟩; refine ⟨_, rfl, ?_⟩; have n0_ := Aside0.mk (Kd.S_below (mS HO570.out) hb); have n1_ := Aside0.mk (Kd.R_below (mR HO574.out) hb); have n2_ := Aside0.mk (Kd.R_lower ho0 (below_size mG)); have n3_ := Aside0.mk (blk_below (g := gb571) (o := .cells #[.int .i64 t567, .slice Ao13 t568.length co13] 28 (0, 0)) ((mK (BK571.out))) hb); have n4_ := Aside0.mk (below_step mG hb); clear HO570 HO574 BK571 HB; have HO570 := n0_; have HO574 := n1_; have HO577 := n2_; have BK571 := n3_; have HB := n4_; clear n0_ n1_ n2_ n3_ n4_; (try clear hb); (try clear ho0)))
  have n0_ := Aside0.mk (Kd.S_drew HO570.out)
  have n1_ := Aside0.mk (Kd.R_drew HO574.out)
  have n2_ := Aside0.mk (Kd.R_drew HO577.out)
  have n3_ := Aside0.mk (blk_drew BK571.out)
  have n4_ := Aside0.mk (below_drew1 HB.out)
  clear HO570 HO574 HO577 BK571 HB; have HO570 := n0_; have HO574 := n1_; have HO577 := n2_; have BK571 := n3_; have HB := n4_; clear n0_ n1_ n2_ n3_ n4_
  refine start_ (n := 5) (S := fun w' => w'.cell? ⟨gb571, 0, none⟩ = some (.int .i64 t567) ∧ w'.cell? ⟨gb571, 1, none⟩ = some (.slice Ao13 t568.length co13)) (ds := []) (L_ 0 5) (by kernel_rfl) rfl rfl ⟨(blk_cell BK571.out 0).trans rfl, (blk_cell BK571.out 1).trans rfl⟩ (fun hHeld => ?_)
  generalize w16.drew = w17 at HO570 HO574 HO577 BK571 HB hHeld ⊢
  refine take_ (i := 0) (N := some 19) (v := ?_) (a' := ?_) (L_ 1 5) rfl rfl (by kernel_rfl) (fun _ _ _ h => h) (Or.inl ⟨by rfl, ?_⟩) hHeld ?_ ?_
  rotate_left
  ·
   rintro w' ⟨s0, s1⟩
   go_simp
   with_reducible rfl
  rotate_left
  ·
   simp only [Act.put, List.setIfInBounds_toArray, List.set_cons_zero, List.set_cons_succ, i64_w, i32_w]
   rfl
  refine take_ (i := 2) (N := some 21) (v := ?_) (a' := ?_) #[true, false, true, false, false] rfl rfl (by kernel_rfl) (fun _ _ _ h => h) (Or.inl ⟨by rfl, ?_⟩) hHeld ?_ ?_
  rotate_left
  ·
   rintro w' ⟨s0, s1⟩
   go_simp
   with_reducible rfl
  rotate_left
  ·
   simp only [Act.put, List.setIfInBounds_toArray, List.set_cons_zero, List.set_cons_succ, i64_w, i32_w]
   rfl
  refine one_ (i := 1) (N := some 20) (L_ 3 5) rfl rfl (by kernel_rfl) (by decide) (fun K hK => ?_)
  refine goes_ Try.func49 (by kernel_rfl) rfl #[.agg #[.int .i64 t567, .slice Ao13 t568.length co13]] (by rfl) rfl rfl mA ?_
  with_reducible refine (impl_IsGraph.calls k t567 _ _ t568 t578 _ ?side1 ?side2 A7.out).mono ?_
  (case side1 => exact mC (Kd.S_reads' HO570.out).2.2)
  (case side2 => exact (Kd.S_reads' HO570.out).2.1)
  rintro e w18 ⟨rfl, hb⟩
  refine ⟨_, rfl, ?_⟩
  have n0_ := Aside0.mk (Kd.S_below (mS HO570.out) hb)
  have n1_ := Aside0.mk (Kd.R_below (mR HO574.out) hb)
  have n2_ := Aside0.mk (Kd.R_below (mR HO577.out) hb)
  have n3_ := Aside0.mk (blk_below (g := gb571) (o := .cells #[.int .i64 t567, .slice Ao13 t568.length co13] 28 (0, 0)) ((mK (BK571.out))) hb)
  have n4_ := Aside0.mk (below_step mG hb)
  clear HO570 HO574 HO577 BK571 HB; have HO570 := n0_; have HO574 := n1_; have HO577 := n2_; have BK571 := n3_; have HB := n4_; clear n0_ n1_ n2_ n3_ n4_; (try clear hb)
  refine hK.out _ _ ⟨(blk_cell BK571.out 0).trans rfl, (blk_cell BK571.out 1).trans rfl⟩ (fun hHeld => ?_)
  clear hK K
  refine norm_ (a' := ?_) ?_ ?_
  rotate_left
  ·
   show Act.put _ (some 20) _ = _
   simp only [Act.put, List.setIfInBounds_toArray, List.set_cons_zero, List.set_cons_succ, i64_w, i32_w]
   rfl
  refine one_ (i := 3) (N := some 22) (L_ 4 5) rfl rfl (by kernel_rfl) (by decide) (fun K hK => ?_)
  refine goes_ Try.func67 (by kernel_rfl) rfl #[.agg #[.int .i64 t567, .slice Ao13 t568.length co13]] (by rfl) rfl rfl mA ?_
  with_reducible refine (spec_IsGraph.calls k t567 _ _ t568 t579 _ ?side1 ?side2 A8.out).mono ?_
  (case side1 => exact mC (Kd.S_reads' HO570.out).2.2)
  (case side2 => exact (Kd.S_reads' HO570.out).2.1)
  rintro e w19 ⟨rfl, hb⟩
  refine ⟨_, rfl, ?_⟩
  have n0_ := Aside0.mk (Kd.S_below (mS HO570.out) hb)
  have n1_ := Aside0.mk (Kd.R_below (mR HO574.out) hb)
  have n2_ := Aside0.mk (Kd.R_below (mR HO577.out) hb)
  have n3_ := Aside0.mk (blk_below (g := gb571) (o := .cells #[.int .i64 t567, .slice Ao13 t568.length co13] 28 (0, 0)) ((mK (BK571.out))) hb)
  have n4_ := Aside0.mk (below_step mG hb)
  clear HO570 HO574 HO577 BK571 HB; have HO570 := n0_; have HO574 := n1_; have HO577 := n2_; have BK571 := n3_; have HB := n4_; clear n0_ n1_ n2_ n3_ n4_; (try clear hb)
  refine hK.out _ _ ⟨(blk_cell BK571.out 0).trans rfl, (blk_cell BK571.out 1).trans rfl⟩ (fun hHeld => ?_)
  clear hK K
  refine norm_ (a' := ?_) ?_ ?_
  rotate_left
  ·
   show Act.put _ (some 22) _ = _
   simp only [Act.put, List.setIfInBounds_toArray, List.set_cons_zero, List.set_cons_succ, i64_w, i32_w]
   rfl
  refine pq 4 23 (L_ 5 5) ?_
  refine done_ (by kernel_rfl) ?_
  try go_wp2
  go_ret
  exact ⟨mE, mG⟩
 rw [if_neg c9] at H
 have c9b0 : (t578 != t579) = false := by simpa using c9
 (try (have c9b1 : decide (t578 = t579) = true := by simpa using c9))
 (try (have c9b2 : (t578 == t579) = true := by simpa using c9))
 clear c9
 replace H := Option.bind_eq_some_iff.mp H
 obtain ⟨t580, A200, H⟩ := H
 have A20 := Aside0.mk A200
 clear A200
 by_cases c21 : t580 = true
 rotate_left
 ·
  replace c21 := Bool.eq_false_iff.mpr c21
  subst c21
  rw [if_neg (show ¬ (false = true) by decide)] at H
  by_cases c136 : (t572.length : Int) = 0
  rotate_left
  ·
   rw [if_neg c136] at H
   have c136b0 : ((t572.length : Int) == 0) = false := beq_eq_false_iff_ne.mpr c136
   have c136b1 : ((t572.length : Int) != 0) = true := bne_iff_ne.mpr c136
   have c136b2 : ¬ (t572 = []) := fun h_ => c136 (by rw [h_]; rfl)
   obtain rfl := Option.some.inj H
   go_enter Try.func16, Try.ntmps16
   try go_wp2_with (first | ((with_reducible refine gate_callee (f := 46) rfl ?_); refine goesL_ (some 12) rfl rfl Try.func46 (by kernel_rfl) rfl #[.slice A0 l0.length c0] rfl mA ?_; (with_reducible refine (laws_big.calls _ _ l0 false _ ?side1 ?side2 A2.out).mono ?_); (case side1 => exact mC HR0.out); (case side2 => exact HC0.out); rintro e w' ⟨rfl, ⟨nd, rfl⟩⟩; refine ⟨_, rfl, ?_⟩) | ((with_reducible refine gate_callee (f := 66) rfl ?_); refine goesL_ (some 14) rfl rfl Try.func66 (by kernel_rfl) rfl #[.slice A0 l0.length c0] rfl mA ?_; (with_reducible refine (spec_DrawGrounded.calls k _ _ l0 t567 t568 _ ?side1 ?side2 A4.out).mono ?_); (case side1 => exact mC HR0.out); (case side2 => exact HC0.out); rintro e w151 ⟨v569, rfl, ho0, hb⟩; refine ⟨_, rfl, ?_⟩; have n0_ := Aside0.mk (Kd.S_lower ho0 (below_size (mB HB.out))); have n1_ := Aside0.mk (below_step (mB HB.out) hb); clear HB; have HO570 := n0_; have HB := n1_; clear n0_ n1_; (try clear hb); (try clear ho0)) | ((with_reducible refine gate_dst (N := 3) rfl ?_); refine box_event ?hg (N := 3) ?hd (cs := #[.int .i64 0, .slice none 0 0]) (t := 28) ?hr ?_; (case hd => rfl); (case hg => rfl); (case hr => first | (go_simp; done) | (go_simp; rfl)); intro gb571 hg w152 hbox hb; have n0_ := Aside0.mk (Kd.S_below (mS HO570.out) hb); have n1_ := Aside0.mk (below_step (mB HB.out) hb); have n2_ := Aside0.mk (hbox); have n3_ := Aside0.mk ((by rw [hg]; exact (below_size (mB HB.out)) : w.heap.size ≤ gb571)); have n4_ := Aside0.mk ((by rw [hg]; exact (below_size (mB HB.out)) : w.heap.size ≤ gb571)); clear HO570 HB; have HO570 := n0_; have HB := n1_; have BK571 := n2_; have GW571 := n3_; have GE571 := n4_; clear n0_ n1_ n2_ n3_ n4_; clear hb hbox hg; have hcz153_0 : w152.cell? ⟨gb571, 0, none⟩ = some (.int .i64 0) := (blk_cell BK571.out 0).trans rfl; have hcz153_1 : w152.cell? ⟨gb571, 1, none⟩ = some (.slice none 0 0) := (blk_cell BK571.out 1).trans rfl; have hfz153_0 := blk_frozen BK571.out 0; have hfz153_1 := blk_frozen BK571.out 1; obtain ⟨Ao154, co154, eo154⟩ := Kd.S_slice HO570.out; subst eo154) | ((with_reducible refine gate_callee (f := 45) rfl ?_); refine goesL_ (some 16) rfl rfl Try.func45 (by kernel_rfl) rfl #[.agg #[.int .i64 t567, .slice Ao154 t568.length co154]] rfl mA ?_; (with_reducible refine (impl_Grounded.calls k t567 _ _ t568 t572 _ ?side1 ?side2 A5.out).mono ?_); (case side1 => refine (Kd.S_reads' (e := 25) (base := w.heap.size) (ok := fun k_ => True) (n := t568.length) (c := co154) ?_).2.2; exact (mS ((Kd.S_mono (Kd.S_far (p := ⟨gb571, 1, none⟩) (Kd.S_far (p := ⟨gb571, 0, none⟩) (Kd.S_types HO570.out BK571.out (by decide)) (fun _ hk => hk.2) (.int .i64 t567)) (fun _ hk => hk.2) (.slice Ao154 t568.length co154)) (fun _ h_ => h_.1))))); (case side2 => exact (Kd.S_reads' HO570.out).2.1); rintro e w155 ⟨v573, rfl, ho0, hb⟩; refine ⟨_, rfl, ?_⟩; have n0_ := Aside0.mk (Kd.S_elder' (mS ((Kd.S_mono (Kd.S_far (p := ⟨gb571, 1, none⟩) (Kd.S_far (p := ⟨gb571, 0, none⟩) (Kd.S_types HO570.out BK571.out (by decide)) (fun _ hk => hk.2) (.int .i64 t567)) (fun _ hk => hk.2) (.slice Ao154 t568.length co154)) (fun _ h_ => h_.1)))) (Kd.R_base ho0) hb); have n1_ := Aside0.mk (Kd.R_lower ho0 (below_size mG)); have n2_ := Aside0.mk (blk_below (g := gb571) (o := .cells #[.int .i64 t567, .slice Ao154 t568.length co154] 28 (0, 0)) (by refine pK ?_; refine blk_put (cs := #[.int .i64 t567, .slice none 0 0]) ?_ 1 _ rfl; refine pK ?_; refine blk_put (cs := #[.int .i64 0, .slice none 0 0]) ?_ 0 _ rfl; refine pK ?_; exact BK571.out) hb); have n3_ := Aside0.mk (below_step mG hb); clear HO570 BK571 HB; have HO570 := n0_; have HO574 := n1_; have BK571 := n2_; have HB := n3_; clear n0_ n1_ n2_ n3_; (try clear hb); (try clear ho0); have hcz156_0 : w155.cell? ⟨gb571, 0, none⟩ = some (.int .i64 t567) := (blk_cell BK571.out 0).trans rfl; have hcz156_1 : w155.cell? ⟨gb571, 1, none⟩ = some (.slice Ao154 t568.length co154) := (blk_cell BK571.out 1).trans rfl; have hfz156_0 := blk_frozen BK571.out 0; have hfz156_1 := blk_frozen BK571.out 1) | ((with_reducible refine gate_callee (f := 62) rfl ?_); refine goesL_ (some 18) rfl rfl Try.func62 (by kernel_rfl) rfl #[.agg #[.int .i64 t567, .slice Ao154 t568.length co154]] rfl mA ?_; (with_reducible refine (impl_Labels.calls k t567 _ _ t568 t575 _ ?side1 ?side2 A6.out).mono ?_); (case side1 => exact mC (Kd.S_reads' HO570.out).2.2); (case side2 => exact (Kd.S_reads' HO570.out).2.1); rintro e w157 ⟨v576, rfl, ho0, hb⟩; refine ⟨_, rfl, ?_⟩; have n0_ := Aside0.mk (Kd.S_below (mS HO570.out) hb); have n1_ := Aside0.mk (Kd.R_below (mR HO574.out) hb); have n2_ := Aside0.mk (Kd.R_lower ho0 (below_size mG)); have n3_ := Aside0.mk (blk_below (g := gb571) (o := .cells #[.int .i64 t567, .slice Ao154 t568.length co154] 28 (0, 0)) ((mK (BK571.out))) hb); have n4_ := Aside0.mk (below_step mG hb); clear HO570 HO574 BK571 HB; have HO570 := n0_; have HO574 := n1_; have HO577 := n2_; have BK571 := n3_; have HB := n4_; clear n0_ n1_ n2_ n3_ n4_; (try clear hb); (try clear ho0)))
   have n0_ := Aside0.mk (Kd.S_drew HO570.out)
   have n1_ := Aside0.mk (Kd.R_drew HO574.out)
   have n2_ := Aside0.mk (Kd.R_drew HO577.out)
   have n3_ := Aside0.mk (blk_drew BK571.out)
   have n4_ := Aside0.mk (below_drew1 HB.out)
   clear HO570 HO574 HO577 BK571 HB; have HO570 := n0_; have HO574 := n1_; have HO577 := n2_; have BK571 := n3_; have HB := n4_; clear n0_ n1_ n2_ n3_ n4_
   refine start_ (n := 5) (S := fun w' => w'.cell? ⟨gb571, 0, none⟩ = some (.int .i64 t567) ∧ w'.cell? ⟨gb571, 1, none⟩ = some (.slice Ao154 t568.length co154)) (ds := []) (L_ 0 5) (by kernel_rfl) rfl rfl ⟨(blk_cell BK571.out 0).trans rfl, (blk_cell BK571.out 1).trans rfl⟩ (fun hHeld => ?_)
   generalize w157.drew = w158 at HO570 HO574 HO577 BK571 HB hHeld ⊢
   refine take_ (i := 0) (N := some 19) (v := ?_) (a' := ?_) (L_ 1 5) rfl rfl (by kernel_rfl) (fun _ _ _ h => h) (Or.inl ⟨by rfl, ?_⟩) hHeld ?_ ?_
   rotate_left
   ·
    rintro w' ⟨s0, s1⟩
    go_simp
    with_reducible rfl
   rotate_left
   ·
    simp only [Act.put, List.setIfInBounds_toArray, List.set_cons_zero, List.set_cons_succ, i64_w, i32_w]
    rfl
   refine take_ (i := 2) (N := some 21) (v := ?_) (a' := ?_) #[true, false, true, false, false] rfl rfl (by kernel_rfl) (fun _ _ _ h => h) (Or.inl ⟨by rfl, ?_⟩) hHeld ?_ ?_
   rotate_left
   ·
    rintro w' ⟨s0, s1⟩
    go_simp
    with_reducible rfl
   rotate_left
   ·
    simp only [Act.put, List.setIfInBounds_toArray, List.set_cons_zero, List.set_cons_succ, i64_w, i32_w]
    rfl
   refine one_ (i := 1) (N := some 20) (L_ 3 5) rfl rfl (by kernel_rfl) (by decide) (fun K hK => ?_)
   refine goes_ Try.func49 (by kernel_rfl) rfl #[.agg #[.int .i64 t567, .slice Ao154 t568.length co154]] (by rfl) rfl rfl mA ?_
   with_reducible refine (impl_IsGraph.calls k t567 _ _ t568 t578 _ ?side1 ?side2 A7.out).mono ?_
   (case side1 => exact mC (Kd.S_reads' HO570.out).2.2)
   (case side2 => exact (Kd.S_reads' HO570.out).2.1)
   rintro e w159 ⟨rfl, hb⟩
   refine ⟨_, rfl, ?_⟩
   have n0_ := Aside0.mk (Kd.S_below (mS HO570.out) hb)
   have n1_ := Aside0.mk (Kd.R_below (mR HO574.out) hb)
   have n2_ := Aside0.mk (Kd.R_below (mR HO577.out) hb)
   have n3_ := Aside0.mk (blk_below (g := gb571) (o := .cells #[.int .i64 t567, .slice Ao154 t568.length co154] 28 (0, 0)) ((mK (BK571.out))) hb)
   have n4_ := Aside0.mk (below_step mG hb)
   clear HO570 HO574 HO577 BK571 HB; have HO570 := n0_; have HO574 := n1_; have HO577 := n2_; have BK571 := n3_; have HB := n4_; clear n0_ n1_ n2_ n3_ n4_; (try clear hb)
   refine hK.out _ _ ⟨(blk_cell BK571.out 0).trans rfl, (blk_cell BK571.out 1).trans rfl⟩ (fun hHeld => ?_)
   clear hK K
   refine norm_ (a' := ?_) ?_ ?_
   rotate_left
   ·
    show Act.put _ (some 20) _ = _
    simp only [Act.put, List.setIfInBounds_toArray, List.set_cons_zero, List.set_cons_succ, i64_w, i32_w]
    rfl
   refine one_ (i := 3) (N := some 22) (L_ 4 5) rfl rfl (by kernel_rfl) (by decide) (fun K hK => ?_)
   refine goes_ Try.func67 (by kernel_rfl) rfl #[.agg #[.int .i64 t567, .slice Ao154 t568.length co154]] (by rfl) rfl rfl mA ?_
   with_reducible refine (spec_IsGraph.calls k t567 _ _ t568 t579 _ ?side1 ?side2 A8.out).mono ?_
   (case side1 => exact mC (Kd.S_reads' HO570.out).2.2)
   (case side2 => exact (Kd.S_reads' HO570.out).2.1)
   rintro e w160 ⟨rfl, hb⟩
   refine ⟨_, rfl, ?_⟩
   have n0_ := Aside0.mk (Kd.S_below (mS HO570.out) hb)
   have n1_ := Aside0.mk (Kd.R_below (mR HO574.out) hb)
   have n2_ := Aside0.mk (Kd.R_below (mR HO577.out) hb)
   have n3_ := Aside0.mk (blk_below (g := gb571) (o := .cells #[.int .i64 t567, .slice Ao154 t568.length co154] 28 (0, 0)) ((mK (BK571.out))) hb)
   have n4_ := Aside0.mk (below_step mG hb)
   clear HO570 HO574 HO577 BK571 HB; have HO570 := n0_; have HO574 := n1_; have HO577 := n2_; have BK571 := n3_; have HB := n4_; clear n0_ n1_ n2_ n3_ n4_; (try clear hb)
   refine hK.out _ _ ⟨(blk_cell BK571.out 0).trans rfl, (blk_cell BK571.out 1).trans rfl⟩ (fun hHeld => ?_)
   clear hK K
   refine norm_ (a' := ?_) ?_ ?_
   rotate_left
   ·
    show Act.put _ (some 22) _ = _
    simp only [Act.put, List.setIfInBounds_toArray, List.set_cons_zero, List.set_cons_succ, i64_w, i32_w]
    rfl
   refine pq 4 23 (L_ 5 5) ?_
   refine done_ (by kernel_rfl) ?_
   have hcz161_0 : w160.cell? ⟨gb571, 0, none⟩ = some (.int .i64 t567) := (blk_cell BK571.out 0).trans rfl
   have hcz161_1 : w160.cell? ⟨gb571, 1, none⟩ = some (.slice Ao154 t568.length co154) := (blk_cell BK571.out 1).trans rfl
   have hfz161_0 := blk_frozen BK571.out 0
   have hfz161_1 := blk_frozen BK571.out 1
   try go_wp2_with (first | ((with_reducible refine gate_callee (f := 49) rfl ?_); refine goesL_ (some 25) rfl rfl Try.func49 (by kernel_rfl) rfl #[.agg #[.int .i64 t567, .slice Ao154 t568.length co154]] rfl mA ?_; (with_reducible refine (impl_IsGraph.calls k t567 _ _ t568 false _ ?side1 ?side2 A20.out).mono ?_); (case side1 => exact mC (Kd.S_reads' HO570.out).2.2); (case side2 => exact (Kd.S_reads' HO570.out).2.1); rintro e w162 ⟨rfl, hb⟩; refine ⟨_, rfl, ?_⟩; have n0_ := Aside0.mk (Kd.S_below (mS HO570.out) hb); have n1_ := Aside0.mk (Kd.R_below (mR HO574.out) hb); have n2_ := Aside0.mk (Kd.R_below (mR HO577.out) hb); have n3_ := Aside0.mk (blk_below (g := gb571) (o := .cells #[.int .i64 t567, .slice Ao154 t568.length co154] 28 (0, 0)) ((mK (BK571.out))) hb); have n4_ := Aside0.mk (below_step mG hb); clear HO570 HO574 HO577 BK571 HB; have HO570 := n0_; have HO574 := n1_; have HO577 := n2_; have BK571 := n3_; have HB := n4_; clear n0_ n1_ n2_ n3_ n4_; (try clear hb); obtain ⟨Ao163, co163, eo163⟩ := Kd.R_slice HO574.out; subst eo163))
   go_ret
   exact ⟨mE, mG⟩
  rw [if_pos c136] at H
  have c136b0 : ((t572.length : Int) == 0) = true := beq_iff_eq.mpr c136
  have c136b1 : ((t572.length : Int) != 0) = false := bne_eq_false_iff_eq.mpr c136
  clear c136
  obtain rfl := Option.some.inj H
  go_enter Try.func16, Try.ntmps16
  try go_wp2_with (first | ((with_reducible refine gate_callee (f := 46) rfl ?_); refine goesL_ (some 12) rfl rfl Try.func46 (by kernel_rfl) rfl #[.slice A0 l0.length c0] rfl mA ?_; (with_reducible refine (laws_big.calls _ _ l0 false _ ?side1 ?side2 A2.out).mono ?_); (case side1 => exact mC HR0.out); (case side2 => exact HC0.out); rintro e w' ⟨rfl, ⟨nd, rfl⟩⟩; refine ⟨_, rfl, ?_⟩) | ((with_reducible refine gate_callee (f := 66) rfl ?_); refine goesL_ (some 14) rfl rfl Try.func66 (by kernel_rfl) rfl #[.slice A0 l0.length c0] rfl mA ?_; (with_reducible refine (spec_DrawGrounded.calls k _ _ l0 t567 t568 _ ?side1 ?side2 A4.out).mono ?_); (case side1 => exact mC HR0.out); (case side2 => exact HC0.out); rintro e w137 ⟨v569, rfl, ho0, hb⟩; refine ⟨_, rfl, ?_⟩; have n0_ := Aside0.mk (Kd.S_lower ho0 (below_size (mB HB.out))); have n1_ := Aside0.mk (below_step (mB HB.out) hb); clear HB; have HO570 := n0_; have HB := n1_; clear n0_ n1_; (try clear hb); (try clear ho0)) | ((with_reducible refine gate_dst (N := 3) rfl ?_); refine box_event ?hg (N := 3) ?hd (cs := #[.int .i64 0, .slice none 0 0]) (t := 28) ?hr ?_; (case hd => rfl); (case hg => rfl); (case hr => first | (go_simp; done) | (go_simp; rfl)); intro gb571 hg w138 hbox hb; have n0_ := Aside0.mk (Kd.S_below (mS HO570.out) hb); have n1_ := Aside0.mk (below_step (mB HB.out) hb); have n2_ := Aside0.mk (hbox); have n3_ := Aside0.mk ((by rw [hg]; exact (below_size (mB HB.out)) : w.heap.size ≤ gb571)); have n4_ := Aside0.mk ((by rw [hg]; exact (below_size (mB HB.out)) : w.heap.size ≤ gb571)); clear HO570 HB; have HO570 := n0_; have HB := n1_; have BK571 := n2_; have GW571 := n3_; have GE571 := n4_; clear n0_ n1_ n2_ n3_ n4_; clear hb hbox hg; have hcz139_0 : w138.cell? ⟨gb571, 0, none⟩ = some (.int .i64 0) := (blk_cell BK571.out 0).trans rfl; have hcz139_1 : w138.cell? ⟨gb571, 1, none⟩ = some (.slice none 0 0) := (blk_cell BK571.out 1).trans rfl; have hfz139_0 := blk_frozen BK571.out 0; have hfz139_1 := blk_frozen BK571.out 1; obtain ⟨Ao140, co140, eo140⟩ := Kd.S_slice HO570.out; subst eo140) | ((with_reducible refine gate_callee (f := 45) rfl ?_); refine goesL_ (some 16) rfl rfl Try.func45 (by kernel_rfl) rfl #[.agg #[.int .i64 t567, .slice Ao140 t568.length co140]] rfl mA ?_; (with_reducible refine (impl_Grounded.calls k t567 _ _ t568 t572 _ ?side1 ?side2 A5.out).mono ?_); (case side1 => refine (Kd.S_reads' (e := 25) (base := w.heap.size) (ok := fun k_ => True) (n := t568.length) (c := co140) ?_).2.2; exact (mS ((Kd.S_mono (Kd.S_far (p := ⟨gb571, 1, none⟩) (Kd.S_far (p := ⟨gb571, 0, none⟩) (Kd.S_types HO570.out BK571.out (by decide)) (fun _ hk => hk.2) (.int .i64 t567)) (fun _ hk => hk.2) (.slice Ao140 t568.length co140)) (fun _ h_ => h_.1))))); (case side2 => exact (Kd.S_reads' HO570.out).2.1); rintro e w141 ⟨v573, rfl, ho0, hb⟩; refine ⟨_, rfl, ?_⟩; have n0_ := Aside0.mk (Kd.S_elder' (mS ((Kd.S_mono (Kd.S_far (p := ⟨gb571, 1, none⟩) (Kd.S_far (p := ⟨gb571, 0, none⟩) (Kd.S_types HO570.out BK571.out (by decide)) (fun _ hk => hk.2) (.int .i64 t567)) (fun _ hk => hk.2) (.slice Ao140 t568.length co140)) (fun _ h_ => h_.1)))) (Kd.R_base ho0) hb); have n1_ := Aside0.mk (Kd.R_lower ho0 (below_size mG)); have n2_ := Aside0.mk (blk_below (g := gb571) (o := .cells #[.int .i64 t567, .slice Ao140 t568.length co140] 28 (0, 0)) (by refine pK ?_; refine blk_put (cs := #[.int .i64 t567, .slice none 0 0]) ?_ 1 _ rfl; refine pK ?_; refine blk_put (cs := #[.int .i64 0, .slice none 0 0]) ?_ 0 _ rfl; refine pK ?_; exact BK571.out) hb); have n3_ := Aside0.mk (below_step mG hb); clear HO570 BK571 HB; have HO570 := n0_; have HO574 := n1_; have BK571 := n2_; have HB := n3_; clear n0_ n1_ n2_ n3_; (try clear hb); (try clear ho0); have hcz142_0 : w141.cell? ⟨gb571, 0, none⟩ = some (.int .i64 t567) := (blk_cell BK571.out 0).trans rfl; have hcz142_1 : w141.cell? ⟨gb571, 1, none⟩ = some (.slice Ao140 t568.length co140) := (blk_cell BK571.out 1).trans rfl; have hfz142_0 := blk_frozen BK571.out 0; have hfz142_1 := blk_frozen BK571.out 1) | ((with_reducible refine gate_callee (f := 62) rfl ?_); refine goesL_ (some 18) rfl rfl Try.func62 (by kernel_rfl) rfl #[.agg #[.int .i64 t567, .slice Ao140 t568.length co140]] rfl mA ?_; (with_reducible refine (impl_Labels.calls k t567 _ _ t568 t575 _ ?side1 ?side2 A6.out).mono ?_); (case side1 => exact mC (Kd.S_reads' HO570.out).2.2); (case side2 => exact (Kd.S_reads' HO570.out).2.1); rintro e w143 ⟨v576, rfl, ho0, hb⟩; refine ⟨_, rfl, ?_⟩; have n0_ := Aside0.mk (Kd.S_below (mS HO570.out) hb); have n1_ := Aside0.mk (Kd.R_below (mR HO574.out) hb); have n2_ := Aside0.mk (Kd.R_lower ho0 (below_size mG)); have n3_ := Aside0.mk (blk_below (g := gb571) (o := .cells #[.int .i64 t567, .slice Ao140 t568.length co140] 28 (0, 0)) ((mK (BK571.out))) hb); have n4_ := Aside0.mk (below_step mG hb); clear HO570 HO574 BK571 HB; have HO570 := n0_; have HO574 := n1_; have HO577 := n2_; have BK571 := n3_; have HB := n4_; clear n0_ n1_ n2_ n3_ n4_; (try clear hb); (try clear ho0)))
  have n0_ := Aside0.mk (Kd.S_drew HO570.out)
  have n1_ := Aside0.mk (Kd.R_drew HO574.out)
  have n2_ := Aside0.mk (Kd.R_drew HO577.out)
  have n3_ := Aside0.mk (blk_drew BK571.out)
  have n4_ := Aside0.mk (below_drew1 HB.out)
  clear HO570 HO574 HO577 BK571 HB; have HO570 := n0_; have HO574 := n1_; have HO577 := n2_; have BK571 := n3_; have HB := n4_; clear n0_ n1_ n2_ n3_ n4_
  refine start_ (n := 5) (S := fun w' => w'.cell? ⟨gb571, 0, none⟩ = some (.int .i64 t567) ∧ w'.cell? ⟨gb571, 1, none⟩ = some (.slice Ao140 t568.length co140)) (ds := []) (L_ 0 5) (by kernel_rfl) rfl rfl ⟨(blk_cell BK571.out 0).trans rfl, (blk_cell BK571.out 1).trans rfl⟩ (fun hHeld => ?_)
  generalize w143.drew = w144 at HO570 HO574 HO577 BK571 HB hHeld ⊢
  refine take_ (i := 0) (N := some 19) (v := ?_) (a' := ?_) (L_ 1 5) rfl rfl (by kernel_rfl) (fun _ _ _ h => h) (Or.inl ⟨by rfl, ?_⟩) hHeld ?_ ?_
  rotate_left
  ·
   rintro w' ⟨s0, s1⟩
   go_simp
   with_reducible rfl
  rotate_left
  ·
   simp only [Act.put, List.setIfInBounds_toArray, List.set_cons_zero, List.set_cons_succ, i64_w, i32_w]
   rfl
  refine take_ (i := 2) (N := some 21) (v := ?_) (a' := ?_) #[true, false, true, false, false] rfl rfl (by kernel_rfl) (fun _ _ _ h => h) (Or.inl ⟨by rfl, ?_⟩) hHeld ?_ ?_
  rotate_left
  ·
   rintro w' ⟨s0, s1⟩
   go_simp
   with_reducible rfl
  rotate_left
  ·
   simp only [Act.put, List.setIfInBounds_toArray, List.set_cons_zero, List.set_cons_succ, i64_w, i32_w]
   rfl
  refine one_ (i := 1) (N := some 20) (L_ 3 5) rfl rfl (by kernel_rfl) (by decide) (fun K hK => ?_)
  refine goes_ Try.func49 (by kernel_rfl) rfl #[.agg #[.int .i64 t567, .slice Ao140 t568.length co140]] (by rfl) rfl rfl mA ?_
  with_reducible refine (impl_IsGraph.calls k t567 _ _ t568 t578 _ ?side1 ?side2 A7.out).mono ?_
  (case side1 => exact mC (Kd.S_reads' HO570.out).2.2)
  (case side2 => exact (Kd.S_reads' HO570.out).2.1)
  rintro e w145 ⟨rfl, hb⟩
  refine ⟨_, rfl, ?_⟩
  have n0_ := Aside0.mk (Kd.S_below (mS HO570.out) hb)
  have n1_ := Aside0.mk (Kd.R_below (mR HO574.out) hb)
  have n2_ := Aside0.mk (Kd.R_below (mR HO577.out) hb)
  have n3_ := Aside0.mk (blk_below (g := gb571) (o := .cells #[.int .i64 t567, .slice Ao140 t568.length co140] 28 (0, 0)) ((mK (BK571.out))) hb)
  have n4_ := Aside0.mk (below_step mG hb)
  clear HO570 HO574 HO577 BK571 HB; have HO570 := n0_; have HO574 := n1_; have HO577 := n2_; have BK571 := n3_; have HB := n4_; clear n0_ n1_ n2_ n3_ n4_; (try clear hb)
  refine hK.out _ _ ⟨(blk_cell BK571.out 0).trans rfl, (blk_cell BK571.out 1).trans rfl⟩ (fun hHeld => ?_)
  clear hK K
  refine norm_ (a' := ?_) ?_ ?_
  rotate_left
  ·
   show Act.put _ (some 20) _ = _
   simp only [Act.put, List.setIfInBounds_toArray, List.set_cons_zero, List.set_cons_succ, i64_w, i32_w]
   rfl
  refine one_ (i := 3) (N := some 22) (L_ 4 5) rfl rfl (by kernel_rfl) (by decide) (fun K hK => ?_)
  refine goes_ Try.func67 (by kernel_rfl) rfl #[.agg #[.int .i64 t567, .slice Ao140 t568.length co140]] (by rfl) rfl rfl mA ?_
  with_reducible refine (spec_IsGraph.calls k t567 _ _ t568 t579 _ ?side1 ?side2 A8.out).mono ?_
  (case side1 => exact mC (Kd.S_reads' HO570.out).2.2)
  (case side2 => exact (Kd.S_reads' HO570.out).2.1)
  rintro e w146 ⟨rfl, hb⟩
  refine ⟨_, rfl, ?_⟩
  have n0_ := Aside0.mk (Kd.S_below (mS HO570.out) hb)
  have n1_ := Aside0.mk (Kd.R_below (mR HO574.out) hb)
  have n2_ := Aside0.mk (Kd.R_below (mR HO577.out) hb)
  have n3_ := Aside0.mk (blk_below (g := gb571) (o := .cells #[.int .i64 t567, .slice Ao140 t568.length co140] 28 (0, 0)) ((mK (BK571.out))) hb)
  have n4_ := Aside0.mk (below_step mG hb)
  clear HO570 HO574 HO577 BK571 HB; have HO570 := n0_; have HO574 := n1_; have HO577 := n2_; have BK571 := n3_; have HB := n4_; clear n0_ n1_ n2_ n3_ n4_; (try clear hb)
  refine hK.out _ _ ⟨(blk_cell BK571.out 0).trans rfl, (blk_cell BK571.out 1).trans rfl⟩ (fun hHeld => ?_)
  clear hK K
  refine norm_ (a' := ?_) ?_ ?_
  rotate_left
  ·
   show Act.put _ (some 22) _ = _
   simp only [Act.put, List.setIfInBounds_toArray, List.set_cons_zero, List.set_cons_succ, i64_w, i32_w]
   rfl
  refine pq 4 23 (L_ 5 5) ?_
  refine done_ (by kernel_rfl) ?_
  have hcz147_0 : w146.cell? ⟨gb571, 0, none⟩ = some (.int .i64 t567) := (blk_cell BK571.out 0).trans rfl
  have hcz147_1 : w146.cell? ⟨gb571, 1, none⟩ = some (.slice Ao140 t568.length co140) := (blk_cell BK571.out 1).trans rfl
  have hfz147_0 := blk_frozen BK571.out 0
  have hfz147_1 := blk_frozen BK571.out 1
  try go_wp2_with (first | ((with_reducible refine gate_callee (f := 49) rfl ?_); refine goesL_ (some 25) rfl rfl Try.func49 (by kernel_rfl) rfl #[.agg #[.int .i64 t567, .slice Ao140 t568.length co140]] rfl mA ?_; (with_reducible refine (impl_IsGraph.calls k t567 _ _ t568 false _ ?side1 ?side2 A20.out).mono ?_); (case side1 => exact mC (Kd.S_reads' HO570.out).2.2); (case side2 => exact (Kd.S_reads' HO570.out).2.1); rintro e w148 ⟨rfl, hb⟩; refine ⟨_, rfl, ?_⟩; have n0_ := Aside0.mk (Kd.S_below (mS HO570.out) hb); have n1_ := Aside0.mk (Kd.R_below (mR HO574.out) hb); have n2_ := Aside0.mk (Kd.R_below (mR HO577.out) hb); have n3_ := Aside0.mk (blk_below (g := gb571) (o := .cells #[.int .i64 t567, .slice Ao140 t568.length co140] 28 (0, 0)) ((mK (BK571.out))) hb); have n4_ := Aside0.mk (below_step mG hb); clear HO570 HO574 HO577 BK571 HB; have HO570 := n0_; have HO574 := n1_; have HO577 := n2_; have BK571 := n3_; have HB := n4_; clear n0_ n1_ n2_ n3_ n4_; (try clear hb); obtain ⟨Ao149, co149, eo149⟩ := Kd.R_slice HO574.out; subst eo149; obtain ⟨Ao150, co150, eo150⟩ := Kd.R_slice HO577.out; subst eo150))
  go_ret
  exact ⟨mE, mG⟩
 subst c21
 rw [if_pos rfl] at H
 have HC22 := Aside0.mk H
 clear H
 go_enter Try.func16, Try.ntmps16
 try go_wp2_with (first | ((with_reducible refine gate_callee (f := 46) rfl ?_); refine goesL_ (some 12) rfl rfl Try.func46 (by kernel_rfl) rfl #[.slice A0 l0.length c0] rfl mA ?_; (with_reducible refine (laws_big.calls _ _ l0 false _ ?side1 ?side2 A2.out).mono ?_); (case side1 => exact mC HR0.out); (case side2 => exact HC0.out); rintro e w' ⟨rfl, ⟨nd, rfl⟩⟩; refine ⟨_, rfl, ?_⟩) | ((with_reducible refine gate_callee (f := 66) rfl ?_); refine goesL_ (some 14) rfl rfl Try.func66 (by kernel_rfl) rfl #[.slice A0 l0.length c0] rfl mA ?_; (with_reducible refine (spec_DrawGrounded.calls k _ _ l0 t567 t568 _ ?side1 ?side2 A4.out).mono ?_); (case side1 => exact mC HR0.out); (case side2 => exact HC0.out); rintro e w23 ⟨v569, rfl, ho0, hb⟩; refine ⟨_, rfl, ?_⟩; have n0_ := Aside0.mk (Kd.S_lower ho0 (below_size (mB HB.out))); have n1_ := Aside0.mk (below_step (mB HB.out) hb); clear HB; have HO570 := n0_; have HB := n1_; clear n0_ n1_; (try clear hb); (try clear ho0)) | ((with_reducible refine gate_dst (N := 3) rfl ?_); refine box_event ?hg (N := 3) ?hd (cs := #[.int .i64 0, .slice none 0 0]) (t := 28) ?hr ?_; (case hd => rfl); (case hg => rfl); (case hr => first | (go_simp; done) | (go_simp; rfl)); intro gb571 hg w24 hbox hb; have n0_ := Aside0.mk (Kd.S_below (mS HO570.out) hb); have n1_ := Aside0.mk (below_step (mB HB.out) hb); have n2_ := Aside0.mk (hbox); have n3_ := Aside0.mk ((by rw [hg]; exact (below_size (mB HB.out)) : w.heap.size ≤ gb571)); have n4_ := Aside0.mk ((by rw [hg]; exact (below_size (mB HB.out)) : w.heap.size ≤ gb571)); clear HO570 HB; have HO570 := n0_; have HB := n1_; have BK571 := n2_; have GW571 := n3_; have GE571 := n4_; clear n0_ n1_ n2_ n3_ n4_; clear hb hbox hg; have hcz25_0 : w24.cell? ⟨gb571, 0, none⟩ = some (.int .i64 0) := (blk_cell BK571.out 0).trans rfl; have hcz25_1 : w24.cell? ⟨gb571, 1, none⟩ = some (.slice none 0 0) := (blk_cell BK571.out 1).trans rfl; have hfz25_0 := blk_frozen BK571.out 0; have hfz25_1 := blk_frozen BK571.out 1; obtain ⟨Ao26, co26, eo26⟩ := Kd.S_slice HO570.out; subst eo26) | ((with_reducible refine gate_callee (f := 45) rfl ?_); refine goesL_ (some 16) rfl rfl Try.func45 (by kernel_rfl) rfl #[.agg #[.int .i64 t567, .slice Ao26 t568.length co26]] rfl mA ?_; (with_reducible refine (impl_Grounded.calls k t567 _ _ t568 t572 _ ?side1 ?side2 A5.out).mono ?_); (case side1 => refine (Kd.S_reads' (e := 25) (base := w.heap.size) (ok := fun k_ => True) (n := t568.length) (c := co26) ?_).2.2; exact (mS ((Kd.S_mono (Kd.S_far (p := ⟨gb571, 1, none⟩) (Kd.S_far (p := ⟨gb571, 0, none⟩) (Kd.S_types HO570.out BK571.out (by decide)) (fun _ hk => hk.2) (.int .i64 t567)) (fun _ hk => hk.2) (.slice Ao26 t568.length co26)) (fun _ h_ => h_.1))))); (case side2 => exact (Kd.S_reads' HO570.out).2.1); rintro e w27 ⟨v573, rfl, ho0, hb⟩; refine ⟨_, rfl, ?_⟩; have n0_ := Aside0.mk (Kd.S_elder' (mS ((Kd.S_mono (Kd.S_far (p := ⟨gb571, 1, none⟩) (Kd.S_far (p := ⟨gb571, 0, none⟩) (Kd.S_types HO570.out BK571.out (by decide)) (fun _ hk => hk.2) (.int .i64 t567)) (fun _ hk => hk.2) (.slice Ao26 t568.length co26)) (fun _ h_ => h_.1)))) (Kd.R_base ho0) hb); have n1_ := Aside0.mk (Kd.R_lower ho0 (below_size mG)); have n2_ := Aside0.mk (blk_below (g := gb571) (o := .cells #[.int .i64 t567, .slice Ao26 t568.length co26] 28 (0, 0)) (by refine pK ?_; refine blk_put (cs := #[.int .i64 t567, .slice none 0 0]) ?_ 1 _ rfl; refine pK ?_; refine blk_put (cs := #[.int .i64 0, .slice none 0 0]) ?_ 0 _ rfl; refine pK ?_; exact BK571.out) hb); have n3_ := Aside0.mk (below_step mG hb); clear HO570 BK571 HB; have HO570 := n0_; have HO574 := n1_; have BK571 := n2_; have HB := n3_; clear n0_ n1_ n2_ n3_; (try clear hb); (try clear ho0); have hcz28_0 : w27.cell? ⟨gb571, 0, none⟩ = some (.int .i64 t567) := (blk_cell BK571.out 0).trans rfl; have hcz28_1 : w27.cell? ⟨gb571, 1, none⟩ = some (.slice Ao26 t568.length co26) := (blk_cell BK571.out 1).trans rfl; have hfz28_0 := blk_frozen BK571.out 0; have hfz28_1 := blk_frozen BK571.out 1) | ((with_reducible refine gate_callee (f := 62) rfl ?_); refine goesL_ (some 18) rfl rfl Try.func62 (by kernel_rfl) rfl #[.agg #[.int .i64 t567, .slice Ao26 t568.length co26]] rfl mA ?_; (with_reducible refine (impl_Labels.calls k t567 _ _ t568 t575 _ ?side1 ?side2 A6.out).mono ?_); (case side1 => exact mC (Kd.S_reads' HO570.out).2.2); (case side2 => exact (Kd.S_reads' HO570.out).2.1); rintro e w29 ⟨v576, rfl, ho0, hb⟩; refine ⟨_, rfl, ?_⟩; have n0_ := Aside0.mk (Kd.S_below (mS HO570.out) hb); have n1_ := Aside0.mk (Kd.R_below (mR HO574.out) hb); have n2_ := Aside0.mk (Kd.R_lower ho0 (below_size mG)); have n3_ := Aside0.mk (blk_below (g := gb571) (o := .cells #[.int .i64 t567, .slice Ao26 t568.length co26] 28 (0, 0)) ((mK (BK571.out))) hb); have n4_ := Aside0.mk (below_step mG hb); clear HO570 HO574 BK571 HB; have HO570 := n0_; have HO574 := n1_; have HO577 := n2_; have BK571 := n3_; have HB := n4_; clear n0_ n1_ n2_ n3_ n4_; (try clear hb); (try clear ho0)))
 have n0_ := Aside0.mk (Kd.S_drew HO570.out)
 have n1_ := Aside0.mk (Kd.R_drew HO574.out)
 have n2_ := Aside0.mk (Kd.R_drew HO577.out)
 have n3_ := Aside0.mk (blk_drew BK571.out)
 have n4_ := Aside0.mk (below_drew1 HB.out)
 clear HO570 HO574 HO577 BK571 HB; have HO570 := n0_; have HO574 := n1_; have HO577 := n2_; have BK571 := n3_; have HB := n4_; clear n0_ n1_ n2_ n3_ n4_
 refine start_ (n := 5) (S := fun w' => w'.cell? ⟨gb571, 0, none⟩ = some (.int .i64 t567) ∧ w'.cell? ⟨gb571, 1, none⟩ = some (.slice Ao26 t568.length co26)) (ds := []) (L_ 0 5) (by kernel_rfl) rfl rfl ⟨(blk_cell BK571.out 0).trans rfl, (blk_cell BK571.out 1).trans rfl⟩ (fun hHeld => ?_)
 generalize w29.drew = w30 at HO570 HO574 HO577 BK571 HB hHeld ⊢
 refine take_ (i := 0) (N := some 19) (v := ?_) (a' := ?_) (L_ 1 5) rfl rfl (by kernel_rfl) (fun _ _ _ h => h) (Or.inl ⟨by rfl, ?_⟩) hHeld ?_ ?_
 rotate_left
 ·
  rintro w' ⟨s0, s1⟩
  go_simp
  with_reducible rfl
 rotate_left
 ·
  simp only [Act.put, List.setIfInBounds_toArray, List.set_cons_zero, List.set_cons_succ, i64_w, i32_w]
  rfl
 refine take_ (i := 2) (N := some 21) (v := ?_) (a' := ?_) #[true, false, true, false, false] rfl rfl (by kernel_rfl) (fun _ _ _ h => h) (Or.inl ⟨by rfl, ?_⟩) hHeld ?_ ?_
 rotate_left
 ·
  rintro w' ⟨s0, s1⟩
  go_simp
  with_reducible rfl
 rotate_left
 ·
  simp only [Act.put, List.setIfInBounds_toArray, List.set_cons_zero, List.set_cons_succ, i64_w, i32_w]
  rfl
 refine one_ (i := 1) (N := some 20) (L_ 3 5) rfl rfl (by kernel_rfl) (by decide) (fun K hK => ?_)
 refine goes_ Try.func49 (by kernel_rfl) rfl #[.agg #[.int .i64 t567, .slice Ao26 t568.length co26]] (by rfl) rfl rfl mA ?_
 with_reducible refine (impl_IsGraph.calls k t567 _ _ t568 t578 _ ?side1 ?side2 A7.out).mono ?_
 (case side1 => exact mC (Kd.S_reads' HO570.out).2.2)
 (case side2 => exact (Kd.S_reads' HO570.out).2.1)
 rintro e w31 ⟨rfl, hb⟩
 refine ⟨_, rfl, ?_⟩
 have n0_ := Aside0.mk (Kd.S_below (mS HO570.out) hb)
 have n1_ := Aside0.mk (Kd.R_below (mR HO574.out) hb)
 have n2_ := Aside0.mk (Kd.R_below (mR HO577.out) hb)
 have n3_ := Aside0.mk (blk_below (g := gb571) (o := .cells #[.int .i64 t567, .slice Ao26 t568.length co26] 28 (0, 0)) ((mK (BK571.out))) hb)
 have n4_ := Aside0.mk (below_step mG hb)
 clear HO570 HO574 HO577 BK571 HB; have HO570 := n0_; have HO574 := n1_; have HO577 := n2_; have BK571 := n3_; have HB := n4_; clear n0_ n1_ n2_ n3_ n4_; (try clear hb)
 refine hK.out _ _ ⟨(blk_cell BK571.out 0).trans rfl, (blk_cell BK571.out 1).trans rfl⟩ (fun hHeld => ?_)
 clear hK K
 refine norm_ (a' := ?_) ?_ ?_
 rotate_left
 ·
  show Act.put _ (some 20) _ = _
  simp only [Act.put, List.setIfInBounds_toArray, List.set_cons_zero, List.set_cons_succ, i64_w, i32_w]
  rfl
 refine one_ (i := 3) (N := some 22) (L_ 4 5) rfl rfl (by kernel_rfl) (by decide) (fun K hK => ?_)
 refine goes_ Try.func67 (by kernel_rfl) rfl #[.agg #[.int .i64 t567, .slice Ao26 t568.length co26]] (by rfl) rfl rfl mA ?_
 with_reducible refine (spec_IsGraph.calls k t567 _ _ t568 t579 _ ?side1 ?side2 A8.out).mono ?_
 (case side1 => exact mC (Kd.S_reads' HO570.out).2.2)
 (case side2 => exact (Kd.S_reads' HO570.out).2.1)
 rintro e w32 ⟨rfl, hb⟩
 refine ⟨_, rfl, ?_⟩
 have n0_ := Aside0.mk (Kd.S_below (mS HO570.out) hb)
 have n1_ := Aside0.mk (Kd.R_below (mR HO574.out) hb)
 have n2_ := Aside0.mk (Kd.R_below (mR HO577.out) hb)
 have n3_ := Aside0.mk (blk_below (g := gb571) (o := .cells #[.int .i64 t567, .slice Ao26 t568.length co26] 28 (0, 0)) ((mK (BK571.out))) hb)
 have n4_ := Aside0.mk (below_step mG hb)
 clear HO570 HO574 HO577 BK571 HB; have HO570 := n0_; have HO574 := n1_; have HO577 := n2_; have BK571 := n3_; have HB := n4_; clear n0_ n1_ n2_ n3_ n4_; (try clear hb)
 refine hK.out _ _ ⟨(blk_cell BK571.out 0).trans rfl, (blk_cell BK571.out 1).trans rfl⟩ (fun hHeld => ?_)
 clear hK K
 refine norm_ (a' := ?_) ?_ ?_
 rotate_left
 ·
  show Act.put _ (some 22) _ = _
  simp only [Act.put, List.setIfInBounds_toArray, List.set_cons_zero, List.set_cons_succ, i64_w, i32_w]
  rfl
 refine pq 4 23 (L_ 5 5) ?_
 refine done_ (by kernel_rfl) ?_
 have hcz33_0 : w32.cell? ⟨gb571, 0, none⟩ = some (.int .i64 t567) := (blk_cell BK571.out 0).trans rfl
 have hcz33_1 : w32.cell? ⟨gb571, 1, none⟩ = some (.slice Ao26 t568.length co26) := (blk_cell BK571.out 1).trans rfl
 have hfz33_0 := blk_frozen BK571.out 0
 have hfz33_1 := blk_frozen BK571.out 1
 go_upto_region 10 with (first | ((with_reducible refine gate_callee (f := 49) rfl ?_); refine goesL_ (some 25) rfl rfl Try.func49 (by kernel_rfl) rfl #[.agg #[.int .i64 t567, .slice Ao26 t568.length co26]] rfl mA ?_; (with_reducible refine (impl_IsGraph.calls k t567 _ _ t568 true _ ?side1 ?side2 A20.out).mono ?_); (case side1 => exact mC (Kd.S_reads' HO570.out).2.2); (case side2 => exact (Kd.S_reads' HO570.out).2.1); rintro e w34 ⟨rfl, hb⟩; refine ⟨_, rfl, ?_⟩; have n0_ := Aside0.mk (Kd.S_below (mS HO570.out) hb); have n1_ := Aside0.mk (Kd.R_below (mR HO574.out) hb); have n2_ := Aside0.mk (Kd.R_below (mR HO577.out) hb); have n3_ := Aside0.mk (blk_below (g := gb571) (o := .cells #[.int .i64 t567, .slice Ao26 t568.length co26] 28 (0, 0)) ((mK (BK571.out))) hb); have n4_ := Aside0.mk (below_step mG hb); clear HO570 HO574 HO577 BK571 HB; have HO570 := n0_; have HO574 := n1_; have HO577 := n2_; have BK571 := n3_; have HB := n4_; clear n0_ n1_ n2_ n3_ n4_; (try clear hb)))
 (try simp only [Act.put, List.setIfInBounds_toArray, List.set_cons_zero, List.set_cons_succ])
 go_cut [45] (fun v45 wc => ∃ (kq : Nat) (x45_21 : Bool), v45 = .bool x45_21 ∧ Aside0 (laws_FnGrounded.j0 kq l0 t572 t575 x45_21 t567 t568 = some r) ∧ Aside0 (kq ≤ k) ∧ Aside0 (Kd.R (Kd.int .i64) 3 wc w.heap.size (fun _ => True) v573 t572) ∧ Aside0 (Kd.R Kd.string 9 wc w.heap.size (fun _ => True) v576 t575) ∧ Aside0 (Kd.S (Kd.slice 3 (Kd.int .i64)) 25 wc w.heap.size (fun k_ => some k_ ≠ (v573 : Value).ownBlock) (.slice Ao26 t568.length co26) t568) ∧ Aside0 (wc.heap[gb571]? = some (.cells #[.int .i64 t567, (.slice Ao26 t568.length co26)] 28 (0, 0))) ∧ Aside0 (Below w.heap.size w wc))
 case first =>
  have H := HC22.out
  clear HC22
  replace H := Option.bind_eq_some_iff.mp H
  obtain ⟨t581, A350, H⟩ := H
  have A35 := Aside0.mk A350
  clear A350
  by_cases c36 : t581 = true
  rotate_left
  ·
   replace c36 := Bool.eq_false_iff.mpr c36
   subst c36
   rw [if_neg (show ¬ (false = true) by decide)] at H
   have H' := Aside0.mk H
   clear H
   have hcz42_0 : w34.cell? ⟨gb571, 0, none⟩ = some (.int .i64 t567) := (blk_cell BK571.out 0).trans rfl
   have hcz42_1 : w34.cell? ⟨gb571, 1, none⟩ = some (.slice Ao26 t568.length co26) := (blk_cell BK571.out 1).trans rfl
   have hfz42_0 := blk_frozen BK571.out 0
   have hfz42_1 := blk_frozen BK571.out 1
   obtain ⟨Ao43, co43, eo43⟩ := Kd.R_slice HO574.out
   subst eo43
   go_wp2_with (first | ((with_reducible refine gate_callee (f := 43) rfl ?_); refine goesL_ (some 37) rfl rfl Try.func43 (by kernel_rfl) rfl #[.agg #[.int .i64 t567, .slice Ao26 t568.length co26], .slice Ao43 t572.length co43] rfl mA ?_; (with_reducible refine (impl_IsComplete.calls k t567 _ _ t568 _ _ t572 false _ ?side1 ?side2 ?side3 ?side4 A35.out).mono ?_); (case side1 => exact mC (Kd.S_reads' HO570.out).2.2); (case side2 => exact (Kd.S_reads' HO570.out).2.1); (case side3 => exact mC (Kd.R_reads' HO574.out).2.2); (case side4 => exact (Kd.R_reads' HO574.out).2.1); rintro e w44 ⟨rfl, hb⟩; refine ⟨_, rfl, ?_⟩; have n0_ := Aside0.mk (Kd.S_below (mS HO570.out) hb); have n1_ := Aside0.mk (Kd.R_below (mR HO574.out) hb); have n2_ := Aside0.mk (Kd.R_below (mR HO577.out) hb); have n3_ := Aside0.mk (blk_below (g := gb571) (o := .cells #[.int .i64 t567, .slice Ao26 t568.length co26] 28 (0, 0)) ((mK (BK571.out))) hb); have n4_ := Aside0.mk (below_step mG hb); clear HO570 HO574 HO577 BK571 HB; have HO570 := n0_; have HO574 := n1_; have HO577 := n2_; have BK571 := n3_; have HB := n4_; clear n0_ n1_ n2_ n3_ n4_; (try clear hb)))
   go_meet
   case rel => exact ⟨_, (true), mF, H', ⟨by first | omega | exact Nat.le_refl _⟩, ⟨mR HO574.out⟩, ⟨mR HO577.out⟩, ⟨by (with_reducible repeat (first | apply Kd.S_alloc | apply Kd.S_drewN | apply Kd.S_drew)); exact Kd.S_mono HO570.out (fun _ hk => hk.2)⟩, ⟨(mK (BK571.out))⟩, ⟨mG⟩⟩
  subst c36
  rw [if_pos rfl] at H
  have H' := Aside0.mk H
  clear H
  have hcz37_0 : w34.cell? ⟨gb571, 0, none⟩ = some (.int .i64 t567) := (blk_cell BK571.out 0).trans rfl
  have hcz37_1 : w34.cell? ⟨gb571, 1, none⟩ = some (.slice Ao26 t568.length co26) := (blk_cell BK571.out 1).trans rfl
  have hfz37_0 := blk_frozen BK571.out 0
  have hfz37_1 := blk_frozen BK571.out 1
  obtain ⟨Ao38, co38, eo38⟩ := Kd.R_slice HO574.out
  subst eo38
  go_wp2_with (first | ((with_reducible refine gate_callee (f := 43) rfl ?_); refine goesL_ (some 37) rfl rfl Try.func43 (by kernel_rfl) rfl #[.agg #[.int .i64 t567, .slice Ao26 t568.length co26], .slice Ao38 t572.length co38] rfl mA ?_; (with_reducible refine (impl_IsComplete.calls k t567 _ _ t568 _ _ t572 true _ ?side1 ?side2 ?side3 ?side4 A35.out).mono ?_); (case side1 => exact mC (Kd.S_reads' HO570.out).2.2); (case side2 => exact (Kd.S_reads' HO570.out).2.1); (case side3 => exact mC (Kd.R_reads' HO574.out).2.2); (case side4 => exact (Kd.R_reads' HO574.out).2.1); rintro e w39 ⟨rfl, hb⟩; refine ⟨_, rfl, ?_⟩; have n0_ := Aside0.mk (Kd.S_below (mS HO570.out) hb); have n1_ := Aside0.mk (Kd.R_below (mR HO574.out) hb); have n2_ := Aside0.mk (Kd.R_below (mR HO577.out) hb); have n3_ := Aside0.mk (blk_below (g := gb571) (o := .cells #[.int .i64 t567, .slice Ao26 t568.length co26] 28 (0, 0)) ((mK (BK571.out))) hb); have n4_ := Aside0.mk (below_step mG hb); clear HO570 HO574 HO577 BK571 HB; have HO570 := n0_; have HO574 := n1_; have HO577 := n2_; have BK571 := n3_; have HB := n4_; clear n0_ n1_ n2_ n3_ n4_; (try clear hb); obtain ⟨Ao40, co40, eo40⟩ := Kd.R_slice HO577.out; subst eo40; have hcz41_0 : w39.cell? ⟨gb571, 0, none⟩ = some (.int .i64 t567) := (blk_cell BK571.out 0).trans rfl; have hcz41_1 : w39.cell? ⟨gb571, 1, none⟩ = some (.slice Ao26 t568.length co26) := (blk_cell BK571.out 1).trans rfl; have hfz41_0 := blk_frozen BK571.out 0; have hfz41_1 := blk_frozen BK571.out 1))
  go_meet
  case rel => exact ⟨_, (((t575.length : Int) != t567)), mF, H', ⟨by first | omega | exact Nat.le_refl _⟩, ⟨mR HO574.out⟩, ⟨mR HO577.out⟩, ⟨by (with_reducible repeat (first | apply Kd.S_alloc | apply Kd.S_drewN | apply Kd.S_drew)); exact Kd.S_mono HO570.out (fun _ hk => hk.2)⟩, ⟨(mK (BK571.out))⟩, ⟨mG⟩⟩
 case rest =>
  clear HC22; (try clear c9b0); (try clear c9b1); (try clear c9b2); (try clear hcz12_0); (try clear hcz12_1); (try clear hcz15_0); (try clear hcz15_1); (try clear hcz25_0); (try clear hcz25_1); (try clear hcz28_0); (try clear hcz28_1); (try clear hcz33_0); (try clear hcz33_1); (try clear hcz37_0); (try clear hcz37_1); (try clear hcz41_0); (try clear hcz41_1); (try clear hcz42_0); (try clear hcz42_1); (try clear hfz12_0); (try clear hfz12_1); (try clear hfz15_0); (try clear hfz15_1); (try clear hfz25_0); (try clear hfz25_1); (try clear hfz28_0); (try clear hfz28_1); (try clear hfz33_0); (try clear hfz33_1); (try clear hfz37_0); (try clear hfz37_1); (try clear hfz41_0); (try clear hfz41_1); (try clear hfz42_0); (try clear hfz42_1)
  obtain ⟨kq, x45_21, rfl, HA, HJ21, HO_4, HO_5, HO_572001, BK571, HB⟩ := hcut
  cases kq with
  | zero => exact absurd HA.out (by simp [laws_FnGrounded.j0])
  | succ kj21 =>
   have H := HA.out
   clear HA
   simp only [laws_FnGrounded.j0] at H
   by_cases c45 : x45_21 = true
   ·
    subst c45
    rw [if_pos rfl] at H
    obtain rfl := Option.some.inj H
    go_wp2
    go_ret
    exact ⟨mE, mG⟩
   replace c45 := Bool.eq_false_iff.mpr c45
   subst c45
   rw [if_neg (show ¬ (false = true) by decide)] at H
   replace H := Option.bind_eq_some_iff.mp H
   obtain ⟨t582, A460, H⟩ := H
   have A46 := Aside0.mk A460
   clear A460
   have H' := Aside0.mk H
   clear H
   have hcz47_0 : wc.cell? ⟨gb571, 0, none⟩ = some (.int .i64 t567) := (blk_cell BK571.out 0).trans rfl
   have hcz47_1 : wc.cell? ⟨gb571, 1, none⟩ = some (.slice Ao26 t568.length co26) := (blk_cell BK571.out 1).trans rfl
   have hfz47_0 := blk_frozen BK571.out 0
   have hfz47_1 := blk_frozen BK571.out 1
   go_wp2_with (first | ((with_reducible refine gate_callee (f := 60) rfl ?_); refine goesL_ (some 47) rfl rfl Try.func60 (by kernel_rfl) rfl #[.agg #[.int .i64 t567, .slice Ao26 t568.length co26]] rfl mA ?_; (with_reducible refine (impl_OpenClaims.calls kj21 t567 _ _ t568 t582 _ ?side1 ?side2 A46.out).mono ?_); (case side1 => exact mC (Kd.S_reads' HO_572001.out).2.2); (case side2 => exact (Kd.S_reads' HO_572001.out).2.1); rintro e w48 ⟨v583, rfl, ho0, hb⟩; refine ⟨_, rfl, ?_⟩; have n0_ := Aside0.mk (Kd.R_elder' (mR HO_4.out) (Kd.R_base ho0) hb); have n1_ := Aside0.mk (Kd.R_below (mR HO_5.out) hb); have n2_ := Aside0.mk (Kd.S_elder' (mS HO_572001.out) (Kd.R_base ho0) hb); have n3_ := Aside0.mk (Kd.R_lower (Kd.R_new' ho0 (Kd.R_lt (mR HO_4.out))) (below_size mG)); have n4_ := Aside0.mk (blk_below (g := gb571) (o := .cells #[.int .i64 t567, .slice Ao26 t568.length co26] 28 (0, 0)) ((mK (BK571.out))) hb); have n5_ := Aside0.mk (below_step mG hb); clear HO_4 HO_5 HO_572001 BK571 HB; have HO_4 := n0_; have HO_5 := n1_; have HO_572001 := n2_; have HO584 := n3_; have BK571 := n4_; have HB := n5_; clear n0_ n1_ n2_ n3_ n4_ n5_; (try clear hb); (try clear ho0)))
   go_loopg [7] kj21 (fun kq v7 w' => ∃ (x7_2 : Int), v7 = .int .i64 x7_2 ∧ Aside0 (laws_FnGrounded.l0 kq l0 t572 t575 t582 x7_2 t567 t568 = some r) ∧ Aside0 (kq ≤ kj21) ∧ Aside0 (Kd.R (Kd.int .i64) 3 w' w.heap.size (fun k_ => some k_ ≠ (v583 : Value).ownBlock) v573 t572) ∧ Aside0 (Kd.R Kd.string 9 w' w.heap.size (fun _ => True) v576 t575) ∧ Aside0 (Kd.R (Kd.int .i64) 3 w' w.heap.size (fun k_ => some k_ ≠ (v573 : Value).ownBlock) v583 t582) ∧ Aside0 (Kd.S (Kd.slice 3 (Kd.int .i64)) 25 w' w.heap.size (fun k_ => some k_ ≠ (v573 : Value).ownBlock ∧ some k_ ≠ (v583 : Value).ownBlock) (.slice Ao26 t568.length co26) t568) ∧ Aside0 (w'.heap[gb571]? = some (.cells #[.int .i64 t567, (.slice Ao26 t568.length co26)] 28 (0, 0))) ∧ Aside0 (Below w.heap.size w w'))
   case atStart => exact ⟨(0), mF, H', ⟨Nat.le_refl _⟩, ⟨by (with_reducible repeat (first | apply Kd.R_alloc | apply Kd.R_drewN | apply Kd.R_drew)); exact Kd.R_mono HO_4.out (fun _ hk => hk.2)⟩, ⟨mR HO_5.out⟩, ⟨by (with_reducible repeat (first | apply Kd.R_alloc | apply Kd.R_drewN | apply Kd.R_drew)); exact Kd.R_mono HO584.out (fun _ hk => hk.2)⟩, ⟨mS HO_572001.out⟩, ⟨(mK (BK571.out))⟩, ⟨mG⟩⟩
   case round =>
    clear H'
    (try clear c9b0); (try clear c9b1); (try clear c9b2); (try clear hcz12_0); (try clear hcz12_1); (try clear hcz15_0); (try clear hcz15_1); (try clear hcz25_0); (try clear hcz25_1); (try clear hcz28_0); (try clear hcz28_1); (try clear hcz33_0); (try clear hcz33_1); (try clear hcz37_0); (try clear hcz37_1); (try clear hcz41_0); (try clear hcz41_1); (try clear hcz42_0); (try clear hcz42_1); (try clear hcz47_0); (try clear hcz47_1); (try clear hfz12_0); (try clear hfz12_1); (try clear hfz15_0); (try clear hfz15_1); (try clear hfz25_0); (try clear hfz25_1); (try clear hfz28_0); (try clear hfz28_1); (try clear hfz33_0); (try clear hfz33_1); (try clear hfz37_0); (try clear hfz37_1); (try clear hfz41_0); (try clear hfz41_1); (try clear hfz42_0); (try clear hfz42_1); (try clear hfz47_0); (try clear hfz47_1)
    obtain ⟨x7_2, rfl, HA, HK2, HO_4, HO_5, HO_6, HO_572001, BK571, HB⟩ := hrel
    cases gk with
    | zero => exact absurd HA.out (by simp [laws_FnGrounded.l0])
    | succ k2 =>
     have H := HA.out
     clear HA
     simp only [laws_FnGrounded.l0] at H
     by_cases c49 : x7_2 < t567
     rotate_left
     ·
      rw [if_neg c49] at H
      have c49b0 : decide (x7_2 < t567) = false := decide_eq_false c49
      clear c49
      replace H := Option.bind_eq_some_iff.mp H
      obtain ⟨⟨t599, t600, t603⟩, A1120, H⟩ := H
      try dsimp only at H
      have A112 := Aside0.mk A1120
      clear A1120
      replace H := Option.bind_eq_some_iff.mp H
      obtain ⟨t607, A1130, H⟩ := H
      have A113 := Aside0.mk A1130
      clear A1130
      by_cases c114 : t607 = true
      rotate_left
      ·
       replace c114 := Bool.eq_false_iff.mpr c114
       subst c114
       rw [if_neg (show ¬ (false = true) by decide)] at H
       obtain rfl := Option.some.inj H
       have hcz128_0 : wr.cell? ⟨gb571, 0, none⟩ = some (.int .i64 t567) := (blk_cell BK571.out 0).trans rfl
       have hcz128_1 : wr.cell? ⟨gb571, 1, none⟩ = some (.slice Ao26 t568.length co26) := (blk_cell BK571.out 1).trans rfl
       have hfz128_0 := blk_frozen BK571.out 0
       have hfz128_1 := blk_frozen BK571.out 1
       go_wp2_with (first | ((with_reducible refine gate_callee (f := 68) rfl ?_); refine goesL_ (some 110) rfl rfl Try.func68 (by kernel_rfl) rfl #[.slice A0 l0.length c0] rfl mA ?_; (with_reducible refine (spec_DrawIsComplete.calls k2 _ _ l0 t599 t600 t603 _ ?side1 ?side2 A112.out).mono ?_); (case side1 => exact mC (Kd.C_below HR0.out HB.out)); (case side2 => exact HC0.out); rintro e w129 ⟨v601, v604, rfl, ho0, ho1, hb⟩; refine ⟨_, rfl, ?_⟩; have n0_ := Aside0.mk (Kd.R_elder' (mR HO_4.out) (Kd.R_base ho1) hb); have n1_ := Aside0.mk (Kd.R_below (mR HO_5.out) hb); have n2_ := Aside0.mk (Kd.R_elder' (mR HO_6.out) (Kd.R_base ho1) hb); have n3_ := Aside0.mk (Kd.S_mono (Kd.S_told (Kd.S_told (Kd.S_old (mS HO_572001.out) hb) (Kd.S_base ho0)) (Kd.R_base ho1)) (fun _ h_ => h_.1)); have n4_ := Aside0.mk (Kd.S_lower (Kd.S_new' (Kd.S_new' (Kd.S_new' ho0 (Kd.R_lt (mR HO_4.out))) (Kd.R_lt (mR HO_6.out))) (Kd.S_lt (mS HO_572001.out))) (below_size mG)); have n5_ := Aside0.mk (Kd.R_lower (Kd.R_new' (Kd.R_new' ho1 (Kd.R_lt (mR HO_4.out))) (Kd.R_lt (mR HO_6.out))) (below_size mG)); have n6_ := Aside0.mk (blk_below (g := gb571) (o := .cells #[.int .i64 t567, .slice Ao26 t568.length co26] 28 (0, 0)) ((mK (BK571.out))) hb); have n7_ := Aside0.mk (below_step mG hb); clear HO_4 HO_5 HO_6 HO_572001 BK571 HB; have HO_4 := n0_; have HO_5 := n1_; have HO_6 := n2_; have HO_572001 := n3_; have HO602 := n4_; have HO605 := n5_; have BK571 := n6_; have HB := n7_; clear n0_ n1_ n2_ n3_ n4_ n5_ n6_ n7_; (try clear hb); (try clear ho0); (try clear ho1)) | ((with_reducible refine gate_dst (N := 9) rfl ?_); refine box_event ?hg (N := 9) ?hd (cs := #[.int .i64 0, .slice none 0 0]) (t := 28) ?hr ?_; (case hd => rfl); (case hg => rfl); (case hr => first | (go_simp; done) | (go_simp; rfl)); intro gb606 hg w130 hbox hb; have n0_ := Aside0.mk (Kd.R_below (mR HO_4.out) hb); have n1_ := Aside0.mk (Kd.R_below (mR HO_5.out) hb); have n2_ := Aside0.mk (Kd.R_below (mR HO_6.out) hb); have n3_ := Aside0.mk (Kd.S_below (mS HO_572001.out) hb); have n4_ := Aside0.mk (Kd.S_below (mS HO602.out) hb); have n5_ := Aside0.mk (Kd.R_below (mR HO605.out) hb); have n6_ := Aside0.mk (blk_below (g := gb571) (o := .cells #[.int .i64 t567, .slice Ao26 t568.length co26] 28 (0, 0)) ((mK (BK571.out))) hb); have n7_ := Aside0.mk (below_step mG hb); have n8_ := Aside0.mk (hbox); have n9_ := Aside0.mk ((by rw [hg]; exact (below_size mG) : w.heap.size ≤ gb606)); have n10_ := Aside0.mk ((by rw [hg]; exact (below_size mG) : w.heap.size ≤ gb606)); have n11_ := Aside0.mk ((by rw [hg]; exact Nat.ne_of_lt (blk_lt (g := gb571) (o := .cells #[.int .i64 t567, .slice Ao26 t568.length co26] 28 (0, 0)) ((mK (BK571.out)))) : gb571 ≠ gb606)); have n12_ := Aside0.mk ((by rw [hg]; exact Nat.ne_of_gt (blk_lt (g := gb571) (o := .cells #[.int .i64 t567, .slice Ao26 t568.length co26] 28 (0, 0)) ((mK (BK571.out)))) : gb606 ≠ gb571)); clear HO_4 HO_5 HO_6 HO_572001 HO602 HO605 BK571 HB; have HO_4 := n0_; have HO_5 := n1_; have HO_6 := n2_; have HO_572001 := n3_; have HO602 := n4_; have HO605 := n5_; have BK571 := n6_; have HB := n7_; have BK606 := n8_; have GW606 := n9_; have GE606 := n10_; have NB571_606 := n11_; have NB606_571 := n12_; clear n0_ n1_ n2_ n3_ n4_ n5_ n6_ n7_ n8_ n9_ n10_ n11_ n12_; clear hb hbox hg; have hnb131 := NB606_571.out; have hnc131 := NB571_606.out; have hcz132_0 : w130.cell? ⟨gb606, 0, none⟩ = some (.int .i64 0) := (blk_cell BK606.out 0).trans rfl; have hcz132_1 : w130.cell? ⟨gb606, 1, none⟩ = some (.slice none 0 0) := (blk_cell BK606.out 1).trans rfl; have hfz132_0 := blk_frozen BK606.out 0; have hfz132_1 := blk_frozen BK606.out 1; obtain ⟨Ao133, co133, eo133⟩ := Kd.S_slice HO602.out; subst eo133; obtain ⟨Ao134, co134, eo134⟩ := Kd.R_slice HO605.out; subst eo134) | ((with_reducible refine gate_callee (f := 43) rfl ?_); refine goesL_ (some 115) rfl rfl Try.func43 (by kernel_rfl) rfl #[.agg #[.int .i64 t599, .slice Ao133 t600.length co133], .slice Ao134 t603.length co134] rfl mA ?_; (with_reducible refine (impl_IsComplete.calls k2 t599 _ _ t600 _ _ t603 false _ ?side1 ?side2 ?side3 ?side4 A113.out).mono ?_); (case side1 => refine (Kd.S_reads' (e := 25) (base := w.heap.size) (ok := fun k_ => (((some k_ ≠ (.slice Ao134 t603.length co134 : Value).ownBlock ∧ some k_ ≠ (v573 : Value).ownBlock) ∧ some k_ ≠ (v583 : Value).ownBlock) ∧ some k_ ≠ (.slice Ao26 t568.length co26 : Value).ownBlock)) (n := t600.length) (c := co133) ?_).2.2; exact (mS ((Kd.S_mono (Kd.S_far (p := ⟨gb606, 1, none⟩) (Kd.S_far (p := ⟨gb606, 0, none⟩) (Kd.S_types HO602.out BK606.out (by decide)) (fun _ hk => hk.2) (.int .i64 t599)) (fun _ hk => hk.2) (.slice Ao133 t600.length co133)) (fun _ h_ => h_.1))))); (case side2 => exact (Kd.S_reads' HO602.out).2.1); (case side3 => refine (Kd.R_reads' (e := 3) (base := w.heap.size) (ok := fun k_ => ((True ∧ some k_ ≠ (v573 : Value).ownBlock) ∧ some k_ ≠ (v583 : Value).ownBlock)) (n := t603.length) (c := co134) ?_).2.2; exact (mR ((Kd.R_mono (Kd.R_far (p := ⟨gb606, 1, none⟩) (Kd.R_far (p := ⟨gb606, 0, none⟩) (Kd.R_types HO605.out BK606.out (by decide)) (fun _ hk => hk.2) (.int .i64 t599)) (fun _ hk => hk.2) (.slice Ao133 t600.length co133)) (fun _ h_ => h_.1))))); (case side4 => exact (Kd.R_reads' HO605.out).2.1); rintro e w135 ⟨rfl, hb⟩; refine ⟨_, rfl, ?_⟩; have n0_ := Aside0.mk (Kd.R_below (mR ((Kd.R_mono (Kd.R_far (p := ⟨gb606, 1, none⟩) (Kd.R_far (p := ⟨gb606, 0, none⟩) (Kd.R_types HO_4.out BK606.out (by decide)) (fun _ hk => hk.2) (.int .i64 t599)) (fun _ hk => hk.2) (.slice Ao133 t600.length co133)) (fun _ h_ => h_.1)))) hb); have n1_ := Aside0.mk (Kd.R_below (mR ((Kd.R_mono (Kd.R_far (p := ⟨gb606, 1, none⟩) (Kd.R_far (p := ⟨gb606, 0, none⟩) (Kd.R_types HO_5.out BK606.out (by decide)) (fun _ hk => hk.2) (.int .i64 t599)) (fun _ hk => hk.2) (.slice Ao133 t600.length co133)) (fun _ h_ => h_.1)))) hb); have n2_ := Aside0.mk (Kd.R_below (mR ((Kd.R_mono (Kd.R_far (p := ⟨gb606, 1, none⟩) (Kd.R_far (p := ⟨gb606, 0, none⟩) (Kd.R_types HO_6.out BK606.out (by decide)) (fun _ hk => hk.2) (.int .i64 t599)) (fun _ hk => hk.2) (.slice Ao133 t600.length co133)) (fun _ h_ => h_.1)))) hb); have n3_ := Aside0.mk (Kd.S_below (mS ((Kd.S_mono (Kd.S_far (p := ⟨gb606, 1, none⟩) (Kd.S_far (p := ⟨gb606, 0, none⟩) (Kd.S_types HO_572001.out BK606.out (by decide)) (fun _ hk => hk.2) (.int .i64 t599)) (fun _ hk => hk.2) (.slice Ao133 t600.length co133)) (fun _ h_ => h_.1)))) hb); have n4_ := Aside0.mk (Kd.S_below (mS ((Kd.S_mono (Kd.S_far (p := ⟨gb606, 1, none⟩) (Kd.S_far (p := ⟨gb606, 0, none⟩) (Kd.S_types HO602.out BK606.out (by decide)) (fun _ hk => hk.2) (.int .i64 t599)) (fun _ hk => hk.2) (.slice Ao133 t600.length co133)) (fun _ h_ => h_.1)))) hb); have n5_ := Aside0.mk (Kd.R_below (mR ((Kd.R_mono (Kd.R_far (p := ⟨gb606, 1, none⟩) (Kd.R_far (p := ⟨gb606, 0, none⟩) (Kd.R_types HO605.out BK606.out (by decide)) (fun _ hk => hk.2) (.int .i64 t599)) (fun _ hk => hk.2) (.slice Ao133 t600.length co133)) (fun _ h_ => h_.1)))) hb); have n6_ := Aside0.mk (blk_below (g := gb571) (o := .cells #[.int .i64 t567, .slice Ao26 t568.length co26] 28 (0, 0)) (by refine pK ?_; refine blk_far ?_ NB571_606.out _; refine pK ?_; refine blk_far ?_ NB571_606.out _; refine pK ?_; exact BK571.out) hb); have n7_ := Aside0.mk (blk_below (g := gb606) (o := .cells #[.int .i64 t599, .slice Ao133 t600.length co133] 28 (0, 0)) (by refine pK ?_; refine blk_put (cs := #[.int .i64 t599, .slice none 0 0]) ?_ 1 _ rfl; refine pK ?_; refine blk_put (cs := #[.int .i64 0, .slice none 0 0]) ?_ 0 _ rfl; refine pK ?_; exact BK606.out) hb); have n8_ := Aside0.mk (below_step mG hb); clear HO_4 HO_5 HO_6 HO_572001 HO602 HO605 BK571 BK606 HB; have HO_4 := n0_; have HO_5 := n1_; have HO_6 := n2_; have HO_572001 := n3_; have HO602 := n4_; have HO605 := n5_; have BK571 := n6_; have BK606 := n7_; have HB := n8_; clear n0_ n1_ n2_ n3_ n4_ n5_ n6_ n7_ n8_; (try clear hb)))
       go_ret
       exact ⟨mE, mG⟩
      subst c114
      rw [if_pos rfl] at H
      replace H := Option.bind_eq_some_iff.mp H
      obtain ⟨t608, A1150, H⟩ := H
      have A115 := Aside0.mk A1150
      clear A1150
      replace H := Option.bind_eq_some_iff.mp H
      obtain ⟨t611, A1160, H⟩ := H
      have A116 := Aside0.mk A1160
      clear A1160
      obtain rfl := Option.some.inj H
      have hcz117_0 : wr.cell? ⟨gb571, 0, none⟩ = some (.int .i64 t567) := (blk_cell BK571.out 0).trans rfl
      have hcz117_1 : wr.cell? ⟨gb571, 1, none⟩ = some (.slice Ao26 t568.length co26) := (blk_cell BK571.out 1).trans rfl
      have hfz117_0 := blk_frozen BK571.out 0
      have hfz117_1 := blk_frozen BK571.out 1
      go_wp2_with (first | ((with_reducible refine gate_callee (f := 68) rfl ?_); refine goesL_ (some 110) rfl rfl Try.func68 (by kernel_rfl) rfl #[.slice A0 l0.length c0] rfl mA ?_; (with_reducible refine (spec_DrawIsComplete.calls k2 _ _ l0 t599 t600 t603 _ ?side1 ?side2 A112.out).mono ?_); (case side1 => exact mC (Kd.C_below HR0.out HB.out)); (case side2 => exact HC0.out); rintro e w118 ⟨v601, v604, rfl, ho0, ho1, hb⟩; refine ⟨_, rfl, ?_⟩; have n0_ := Aside0.mk (Kd.R_elder' (mR HO_4.out) (Kd.R_base ho1) hb); have n1_ := Aside0.mk (Kd.R_below (mR HO_5.out) hb); have n2_ := Aside0.mk (Kd.R_elder' (mR HO_6.out) (Kd.R_base ho1) hb); have n3_ := Aside0.mk (Kd.S_mono (Kd.S_told (Kd.S_told (Kd.S_old (mS HO_572001.out) hb) (Kd.S_base ho0)) (Kd.R_base ho1)) (fun _ h_ => h_.1)); have n4_ := Aside0.mk (Kd.S_lower (Kd.S_new' (Kd.S_new' (Kd.S_new' ho0 (Kd.R_lt (mR HO_4.out))) (Kd.R_lt (mR HO_6.out))) (Kd.S_lt (mS HO_572001.out))) (below_size mG)); have n5_ := Aside0.mk (Kd.R_lower (Kd.R_new' (Kd.R_new' ho1 (Kd.R_lt (mR HO_4.out))) (Kd.R_lt (mR HO_6.out))) (below_size mG)); have n6_ := Aside0.mk (blk_below (g := gb571) (o := .cells #[.int .i64 t567, .slice Ao26 t568.length co26] 28 (0, 0)) ((mK (BK571.out))) hb); have n7_ := Aside0.mk (below_step mG hb); clear HO_4 HO_5 HO_6 HO_572001 BK571 HB; have HO_4 := n0_; have HO_5 := n1_; have HO_6 := n2_; have HO_572001 := n3_; have HO602 := n4_; have HO605 := n5_; have BK571 := n6_; have HB := n7_; clear n0_ n1_ n2_ n3_ n4_ n5_ n6_ n7_; (try clear hb); (try clear ho0); (try clear ho1)) | ((with_reducible refine gate_dst (N := 9) rfl ?_); refine box_event ?hg (N := 9) ?hd (cs := #[.int .i64 0, .slice none 0 0]) (t := 28) ?hr ?_; (case hd => rfl); (case hg => rfl); (case hr => first | (go_simp; done) | (go_simp; rfl)); intro gb606 hg w119 hbox hb; have n0_ := Aside0.mk (Kd.R_below (mR HO_4.out) hb); have n1_ := Aside0.mk (Kd.R_below (mR HO_5.out) hb); have n2_ := Aside0.mk (Kd.R_below (mR HO_6.out) hb); have n3_ := Aside0.mk (Kd.S_below (mS HO_572001.out) hb); have n4_ := Aside0.mk (Kd.S_below (mS HO602.out) hb); have n5_ := Aside0.mk (Kd.R_below (mR HO605.out) hb); have n6_ := Aside0.mk (blk_below (g := gb571) (o := .cells #[.int .i64 t567, .slice Ao26 t568.length co26] 28 (0, 0)) ((mK (BK571.out))) hb); have n7_ := Aside0.mk (below_step mG hb); have n8_ := Aside0.mk (hbox); have n9_ := Aside0.mk ((by rw [hg]; exact (below_size mG) : w.heap.size ≤ gb606)); have n10_ := Aside0.mk ((by rw [hg]; exact (below_size mG) : w.heap.size ≤ gb606)); have n11_ := Aside0.mk ((by rw [hg]; exact Nat.ne_of_lt (blk_lt (g := gb571) (o := .cells #[.int .i64 t567, .slice Ao26 t568.length co26] 28 (0, 0)) ((mK (BK571.out)))) : gb571 ≠ gb606)); have n12_ := Aside0.mk ((by rw [hg]; exact Nat.ne_of_gt (blk_lt (g := gb571) (o := .cells #[.int .i64 t567, .slice Ao26 t568.length co26] 28 (0, 0)) ((mK (BK571.out)))) : gb606 ≠ gb571)); clear HO_4 HO_5 HO_6 HO_572001 HO602 HO605 BK571 HB; have HO_4 := n0_; have HO_5 := n1_; have HO_6 := n2_; have HO_572001 := n3_; have HO602 := n4_; have HO605 := n5_; have BK571 := n6_; have HB := n7_; have BK606 := n8_; have GW606 := n9_; have GE606 := n10_; have NB571_606 := n11_; have NB606_571 := n12_; clear n0_ n1_ n2_ n3_ n4_ n5_ n6_ n7_ n8_ n9_ n10_ n11_ n12_; clear hb hbox hg; have hnb120 := NB606_571.out; have hnc120 := NB571_606.out; have hcz121_0 : w119.cell? ⟨gb606, 0, none⟩ = some (.int .i64 0) := (blk_cell BK606.out 0).trans rfl; have hcz121_1 : w119.cell? ⟨gb606, 1, none⟩ = some (.slice none 0 0) := (blk_cell BK606.out 1).trans rfl; have hfz121_0 := blk_frozen BK606.out 0; have hfz121_1 := blk_frozen BK606.out 1; obtain ⟨Ao122, co122, eo122⟩ := Kd.S_slice HO602.out; subst eo122; obtain ⟨Ao123, co123, eo123⟩ := Kd.R_slice HO605.out; subst eo123) | ((with_reducible refine gate_callee (f := 43) rfl ?_); refine goesL_ (some 115) rfl rfl Try.func43 (by kernel_rfl) rfl #[.agg #[.int .i64 t599, .slice Ao122 t600.length co122], .slice Ao123 t603.length co123] rfl mA ?_; (with_reducible refine (impl_IsComplete.calls k2 t599 _ _ t600 _ _ t603 true _ ?side1 ?side2 ?side3 ?side4 A113.out).mono ?_); (case side1 => refine (Kd.S_reads' (e := 25) (base := w.heap.size) (ok := fun k_ => (((some k_ ≠ (.slice Ao123 t603.length co123 : Value).ownBlock ∧ some k_ ≠ (v573 : Value).ownBlock) ∧ some k_ ≠ (v583 : Value).ownBlock) ∧ some k_ ≠ (.slice Ao26 t568.length co26 : Value).ownBlock)) (n := t600.length) (c := co122) ?_).2.2; exact (mS ((Kd.S_mono (Kd.S_far (p := ⟨gb606, 1, none⟩) (Kd.S_far (p := ⟨gb606, 0, none⟩) (Kd.S_types HO602.out BK606.out (by decide)) (fun _ hk => hk.2) (.int .i64 t599)) (fun _ hk => hk.2) (.slice Ao122 t600.length co122)) (fun _ h_ => h_.1))))); (case side2 => exact (Kd.S_reads' HO602.out).2.1); (case side3 => refine (Kd.R_reads' (e := 3) (base := w.heap.size) (ok := fun k_ => ((True ∧ some k_ ≠ (v573 : Value).ownBlock) ∧ some k_ ≠ (v583 : Value).ownBlock)) (n := t603.length) (c := co123) ?_).2.2; exact (mR ((Kd.R_mono (Kd.R_far (p := ⟨gb606, 1, none⟩) (Kd.R_far (p := ⟨gb606, 0, none⟩) (Kd.R_types HO605.out BK606.out (by decide)) (fun _ hk => hk.2) (.int .i64 t599)) (fun _ hk => hk.2) (.slice Ao122 t600.length co122)) (fun _ h_ => h_.1))))); (case side4 => exact (Kd.R_reads' HO605.out).2.1); rintro e w124 ⟨rfl, hb⟩; refine ⟨_, rfl, ?_⟩; have n0_ := Aside0.mk (Kd.R_below (mR ((Kd.R_mono (Kd.R_far (p := ⟨gb606, 1, none⟩) (Kd.R_far (p := ⟨gb606, 0, none⟩) (Kd.R_types HO_4.out BK606.out (by decide)) (fun _ hk => hk.2) (.int .i64 t599)) (fun _ hk => hk.2) (.slice Ao122 t600.length co122)) (fun _ h_ => h_.1)))) hb); have n1_ := Aside0.mk (Kd.R_below (mR ((Kd.R_mono (Kd.R_far (p := ⟨gb606, 1, none⟩) (Kd.R_far (p := ⟨gb606, 0, none⟩) (Kd.R_types HO_5.out BK606.out (by decide)) (fun _ hk => hk.2) (.int .i64 t599)) (fun _ hk => hk.2) (.slice Ao122 t600.length co122)) (fun _ h_ => h_.1)))) hb); have n2_ := Aside0.mk (Kd.R_below (mR ((Kd.R_mono (Kd.R_far (p := ⟨gb606, 1, none⟩) (Kd.R_far (p := ⟨gb606, 0, none⟩) (Kd.R_types HO_6.out BK606.out (by decide)) (fun _ hk => hk.2) (.int .i64 t599)) (fun _ hk => hk.2) (.slice Ao122 t600.length co122)) (fun _ h_ => h_.1)))) hb); have n3_ := Aside0.mk (Kd.S_below (mS ((Kd.S_mono (Kd.S_far (p := ⟨gb606, 1, none⟩) (Kd.S_far (p := ⟨gb606, 0, none⟩) (Kd.S_types HO_572001.out BK606.out (by decide)) (fun _ hk => hk.2) (.int .i64 t599)) (fun _ hk => hk.2) (.slice Ao122 t600.length co122)) (fun _ h_ => h_.1)))) hb); have n4_ := Aside0.mk (Kd.S_below (mS ((Kd.S_mono (Kd.S_far (p := ⟨gb606, 1, none⟩) (Kd.S_far (p := ⟨gb606, 0, none⟩) (Kd.S_types HO602.out BK606.out (by decide)) (fun _ hk => hk.2) (.int .i64 t599)) (fun _ hk => hk.2) (.slice Ao122 t600.length co122)) (fun _ h_ => h_.1)))) hb); have n5_ := Aside0.mk (Kd.R_below (mR ((Kd.R_mono (Kd.R_far (p := ⟨gb606, 1, none⟩) (Kd.R_far (p := ⟨gb606, 0, none⟩) (Kd.R_types HO605.out BK606.out (by decide)) (fun _ hk => hk.2) (.int .i64 t599)) (fun _ hk => hk.2) (.slice Ao122 t600.length co122)) (fun _ h_ => h_.1)))) hb); have n6_ := Aside0.mk (blk_below (g := gb571) (o := .cells #[.int .i64 t567, .slice Ao26 t568.length co26] 28 (0, 0)) (by refine pK ?_; refine blk_far ?_ NB571_606.out _; refine pK ?_; refine blk_far ?_ NB571_606.out _; refine pK ?_; exact BK571.out) hb); have n7_ := Aside0.mk (blk_below (g := gb606) (o := .cells #[.int .i64 t599, .slice Ao122 t600.length co122] 28 (0, 0)) (by refine pK ?_; refine blk_put (cs := #[.int .i64 t599, .slice none 0 0]) ?_ 1 _ rfl; refine pK ?_; refine blk_put (cs := #[.int .i64 0, .slice none 0 0]) ?_ 0 _ rfl; refine pK ?_; exact BK606.out) hb); have n8_ := Aside0.mk (below_step mG hb); clear HO_4 HO_5 HO_6 HO_572001 HO602 HO605 BK571 BK606 HB; have HO_4 := n0_; have HO_5 := n1_; have HO_6 := n2_; have HO_572001 := n3_; have HO602 := n4_; have HO605 := n5_; have BK571 := n6_; have BK606 := n7_; have HB := n8_; clear n0_ n1_ n2_ n3_ n4_ n5_ n6_ n7_ n8_; (try clear hb); have hcz125_0 : w124.cell? ⟨gb606, 0, none⟩ = some (.int .i64 t599) := (blk_cell BK606.out 0).trans rfl; have hcz125_1 : w124.cell? ⟨gb606, 1, none⟩ = some (.slice Ao122 t600.length co122) := (blk_cell BK606.out 1).trans rfl; have hfz125_0 := blk_frozen BK606.out 0; have hfz125_1 := blk_frozen BK606.out 1) | (go_at_call 45; (with_reducible refine (impl_Grounded.calls k2 t599 _ _ t600 t608 _ ?side1 ?side2 A115.out).mono ?_); (case side1 => exact mC (Kd.S_reads' HO602.out).2.2); (case side2 => exact (Kd.S_reads' HO602.out).2.1); rintro e w126 ⟨v609, rfl, ho0, hb⟩; have n0_ := Aside0.mk (Kd.R_elder' (mR HO_4.out) (Kd.R_base ho0) hb); have n1_ := Aside0.mk (Kd.R_below (mR HO_5.out) hb); have n2_ := Aside0.mk (Kd.R_elder' (mR HO_6.out) (Kd.R_base ho0) hb); have n3_ := Aside0.mk (Kd.S_elder' (mS HO_572001.out) (Kd.R_base ho0) hb); have n4_ := Aside0.mk (Kd.S_elder' (mS HO602.out) (Kd.R_base ho0) hb); have n5_ := Aside0.mk (Kd.R_elder' (mR HO605.out) (Kd.R_base ho0) hb); have n6_ := Aside0.mk (Kd.R_lower (Kd.R_new' (Kd.R_new' (Kd.R_new' ho0 (Kd.R_lt (mR HO_4.out))) (Kd.R_lt (mR HO_6.out))) (Kd.R_lt (mR HO605.out))) (below_size mG)); have n7_ := Aside0.mk (blk_below (g := gb571) (o := .cells #[.int .i64 t567, .slice Ao26 t568.length co26] 28 (0, 0)) ((mK (BK571.out))) hb); have n8_ := Aside0.mk (blk_below (g := gb606) (o := .cells #[.int .i64 t599, .slice Ao122 t600.length co122] 28 (0, 0)) ((mK (BK606.out))) hb); have n9_ := Aside0.mk (below_step mG hb); clear HO_4 HO_5 HO_6 HO_572001 HO602 HO605 BK571 BK606 HB; have HO_4 := n0_; have HO_5 := n1_; have HO_6 := n2_; have HO_572001 := n3_; have HO602 := n4_; have HO605 := n5_; have HO610 := n6_; have BK571 := n7_; have BK606 := n8_; have HB := n9_; clear n0_ n1_ n2_ n3_ n4_ n5_ n6_ n7_ n8_ n9_; (try clear hb); (try clear ho0); obtain ⟨Ao127, co127, eo127⟩ := Kd.R_slice HO610.out; subst eo127) | (go_at_call 58; (with_reducible refine (laws_within.calls k2 _ _ t608 _ _ t603 t611 _ ?side1 ?side2 ?side3 ?side4 A116.out).mono ?_); (case side1 => exact mC (Kd.R_reads' HO610.out).2.2); (case side2 => exact (Kd.R_reads' HO610.out).2.1); (case side3 => exact mC (Kd.R_reads' HO605.out).2.2); (case side4 => exact (Kd.R_reads' HO605.out).2.1); rintro e w' ⟨rfl, ⟨nd, rfl⟩⟩))
      go_ret
      exact ⟨mE, mG⟩
     rw [if_pos c49] at H
     have c49b0 : decide (x7_2 < t567) = true := decide_eq_true c49
     clear c49
     replace H := Option.bind_eq_some_iff.mp H
     obtain ⟨t585, A500, H⟩ := H
     have A50 := Aside0.mk A500
     clear A500
     by_cases c51 : 0 ≤ x7_2
     rotate_left
     ·
      rw [if_neg c51] at H
      exact absurd H (by simp)
     rw [if_pos c51] at H
     have c51b0 : decide (0 ≤ x7_2) = true := decide_eq_true c51
     clear c51
     by_cases c52 : x7_2 < (t575.length : Int)
     rotate_left
     ·
      rw [if_neg c52] at H
      exact absurd H (by simp)
     rw [if_pos c52] at H
     have c52b0 : decide (x7_2 < (t575.length : Int)) = true := decide_eq_true c52
     clear c52
     replace H := Option.bind_eq_some_iff.mp H
     obtain ⟨t587, A530, H⟩ := H
     have A53 := Aside0.mk A530
     clear A530
     by_cases c54 : (((rdOf ByteArray.empty t575 x7_2).toList == ([105, 110] : List UInt8)) != t587) = true
     ·
      rw [if_pos c54] at H
      have c54b0 : (((rdOf ByteArray.empty t575 x7_2).toList == ([105, 110] : List UInt8)) != t587) = true := c54
      (try (have c54b1 : decide (((rdOf ByteArray.empty t575 x7_2).toList == ([105, 110] : List UInt8)) = t587) = false := by simpa using c54))
      (try (have c54b2 : (((rdOf ByteArray.empty t575 x7_2).toList == ([105, 110] : List UInt8)) == t587) = false := by simpa using c54))
      (try (have c54b3 : ¬ (((rdOf ByteArray.empty t575 x7_2).toList == ([105, 110] : List UInt8)) = t587) := by simpa using c54))
      clear c54
      obtain rfl := Option.some.inj H
      have hcz55_0 : wr.cell? ⟨gb571, 0, none⟩ = some (.int .i64 t567) := (blk_cell BK571.out 0).trans rfl
      have hcz55_1 : wr.cell? ⟨gb571, 1, none⟩ = some (.slice Ao26 t568.length co26) := (blk_cell BK571.out 1).trans rfl
      have hfz55_0 := blk_frozen BK571.out 0
      have hfz55_1 := blk_frozen BK571.out 1
      try go_wp2_with (first | ((with_reducible refine gate_callee (f := 41) rfl ?_); refine goesL_ (some 56) rfl rfl Try.func41 (by kernel_rfl) rfl #[.agg #[.int .i64 t567, .slice Ao26 t568.length co26], .int .i64 x7_2] rfl mA ?_; (with_reducible refine (impl_RoundOf.calls k2 t567 _ _ t568 x7_2 t585 _ ?side1 ?side2 A50.out).mono ?_); (case side1 => exact mC (Kd.S_reads' HO_572001.out).2.2); (case side2 => exact (Kd.S_reads' HO_572001.out).2.1); rintro e w56 ⟨rfl, hb⟩; refine ⟨_, rfl, ?_⟩; have n0_ := Aside0.mk (Kd.R_below (mR HO_4.out) hb); have n1_ := Aside0.mk (Kd.R_below (mR HO_5.out) hb); have n2_ := Aside0.mk (Kd.R_below (mR HO_6.out) hb); have n3_ := Aside0.mk (Kd.S_below (mS HO_572001.out) hb); have n4_ := Aside0.mk (blk_below (g := gb571) (o := .cells #[.int .i64 t567, .slice Ao26 t568.length co26] 28 (0, 0)) ((mK (BK571.out))) hb); have n5_ := Aside0.mk (below_step mG hb); clear HO_4 HO_5 HO_6 HO_572001 BK571 HB; have HO_4 := n0_; have HO_5 := n1_; have HO_6 := n2_; have HO_572001 := n3_; have BK571 := n4_; have HB := n5_; clear n0_ n1_ n2_ n3_ n4_ n5_; (try clear hb)))
      have n0_ := Aside0.mk (Kd.R_drew HO_4.out)
      have n1_ := Aside0.mk (Kd.R_drew HO_5.out)
      have n2_ := Aside0.mk (Kd.R_drew HO_6.out)
      have n3_ := Aside0.mk (Kd.S_drew HO_572001.out)
      have n4_ := Aside0.mk (blk_drew BK571.out)
      have n5_ := Aside0.mk (below_drew1 HB.out)
      clear HO_4 HO_5 HO_6 HO_572001 BK571 HB; have HO_4 := n0_; have HO_5 := n1_; have HO_6 := n2_; have HO_572001 := n3_; have BK571 := n4_; have HB := n5_; clear n0_ n1_ n2_ n3_ n4_ n5_
      obtain ⟨Ao58, co58, eo58⟩ := Kd.R_slice HO_5.out
      (first | subst eo58 | (injection eo58 with f1_ f2_ f3_; have f4_ := f1_.symm; have f5_ := f3_.symm; clear f1_ f2_ f3_; subst f4_; subst f5_))
      have p586 : 0 ≤ (x7_2 : Int) := mD
      have q586 : x7_2 < (t575.length : Int) := mD
      obtain ⟨ad586, e586, hx586_0⟩ := Kd.at_string (Kd.R_reads' HO_5.out).2.2 x7_2 p586 q586
      cases e586
      replace p586 := eq_true p586
      replace q586 := eq_true q586
      obtain ⟨Ao59, co59, eo59⟩ := Kd.R_slice HO_4.out
      (first | subst eo59 | (injection eo59 with f1_ f2_ f3_; have f4_ := f1_.symm; have f5_ := f3_.symm; clear f1_ f2_ f3_; subst f4_; subst f5_))
      refine start_ (n := 51) (S := fun w' => w'.cell? (ad586.add (x7_2).toNat) = some (.string (rdOf ByteArray.empty t575 x7_2))) (ds := []) (L_ 0 51) (by kernel_rfl) rfl rfl (hx586_0) (fun hHeld => ?_); refine with_tabW laws_FnGrounded.tab17 laws_FnGrounded.bits17 (fun HT_ HW_ => ?_)
      generalize w56.drew = w57 at HO_4 HO_5 HO_6 HO_572001 BK571 HB hx586_0 hHeld ⊢
      refine ps 0 57 (L_ 1 51) HT_.out ?_
      refine ps 1 58 (L_ 2 51) HT_.out ?_
      refine ps 2 59 (L_ 3 51) HT_.out ?_
      refine ps 5 62 #[true, true, true, false, false, true, false, false, false, false, false, false, false, false, false, false, false, false, false, false, false, false, false, false, false, false, false, false, false, false, false, false, false, false, false, false, false, false, false, false, false, false, false, false, false, false, false, false, false, false, false] HT_.out ?_
      refine ps 6 63 #[true, true, true, false, false, true, true, false, false, false, false, false, false, false, false, false, false, false, false, false, false, false, false, false, false, false, false, false, false, false, false, false, false, false, false, false, false, false, false, false, false, false, false, false, false, false, false, false, false, false, false] HT_.out ?_
      refine take_ (i := 3) (N := some 60) (v := ?_) (a' := ?_) #[true, true, true, true, false, true, true, false, false, false, false, false, false, false, false, false, false, false, false, false, false, false, false, false, false, false, false, false, false, false, false, false, false, false, false, false, false, false, false, false, false, false, false, false, false, false, false, false, false, false, false] rfl rfl (take_ofW HT_.out HW_.out (by kernel_rfl)) (fun _ _ _ h => h) (Or.inl ⟨by rfl, ?_⟩) hHeld ?_ ?_
      rotate_left
      ·
       intro w' s0
       go_simp
       with_reducible rfl
      rotate_left
      ·
       simp only [Act.put, List.setIfInBounds_toArray, List.set_cons_zero, List.set_cons_succ, i64_w, i32_w]
       rfl
      refine ps 4 61 (L_ 7 51) HT_.out ?_
      refine one_ (i := 7) (N := some 64) (L_ 8 51) rfl rfl (one_of HT_.out (by kernel_rfl)) (by decide) (fun K hK => ?_)
      refine goes_ Try.func51 (by kernel_rfl) rfl #[.slice Ao59 t572.length co59, .int .i64 x7_2] (by rfl) rfl rfl mA ?_
      with_reducible refine (laws_contains.calls k2 _ _ t572 x7_2 t587 _ ?side1 ?side2 A53.out).mono ?_
      (case side1 => exact mC (Kd.R_reads' HO_4.out).2.2)
      (case side2 => exact (Kd.R_reads' HO_4.out).2.1)
      rintro e w' ⟨rfl, ⟨nd, rfl⟩⟩
      refine ⟨_, rfl, ?_⟩
      refine hK.out _ _ (hHeld) (fun hHeld => ?_)
      clear hK K
      refine norm_ (a' := ?_) ?_ ?_
      rotate_left
      ·
       show Act.put _ (some 64) _ = _
       simp only [Act.put, List.setIfInBounds_toArray, List.set_cons_zero, List.set_cons_succ, i64_w, i32_w]
       rfl
      refine ps 8 65 (L_ 9 51) HT_.out ?_
      refine ps 9 66 (L_ 10 51) HT_.out ?_
      refine pure_ (i := 10) (N := some 67) (v := undef) (a' := ?_) (L_ 11 51) rfl rfl (any_of HT_.out (by kernel_rfl)) (fun _ _ _ h => h) (Or.inr ⟨by rfl, rfl⟩) ?_ ?_
      rotate_left
      ·
       simp only [Act.put, List.setIfInBounds_toArray, List.set_cons_zero, List.set_cons_succ, i64_w, i32_w]
       rfl
      refine pure_ (i := 11) (N := some 68) (v := undef) (a' := ?_) (L_ 12 51) rfl rfl (any_of HT_.out (by kernel_rfl)) (fun _ _ _ h => h) (Or.inr ⟨by rfl, rfl⟩) ?_ ?_
      rotate_left
      ·
       simp only [Act.put, List.setIfInBounds_toArray, List.set_cons_zero, List.set_cons_succ, i64_w, i32_w]
       rfl
      refine pure_ (i := 12) (N := some 69) (v := undef) (a' := ?_) (L_ 13 51) rfl rfl (any_of HT_.out (by kernel_rfl)) (fun _ _ _ h => h) (Or.inr ⟨by rfl, rfl⟩) ?_ ?_
      rotate_left
      ·
       simp only [Act.put, List.setIfInBounds_toArray, List.set_cons_zero, List.set_cons_succ, i64_w, i32_w]
       rfl
      refine pure_ (i := 13) (N := some 70) (v := undef) (a' := ?_) (L_ 14 51) rfl rfl (any_of HT_.out (by kernel_rfl)) (fun _ _ _ h => h) (Or.inr ⟨by rfl, rfl⟩) ?_ ?_
      rotate_left
      ·
       simp only [Act.put, List.setIfInBounds_toArray, List.set_cons_zero, List.set_cons_succ, i64_w, i32_w]
       rfl
      refine pure_ (i := 14) (N := some 71) (v := undef) (a' := ?_) (L_ 15 51) rfl rfl (any_of HT_.out (by kernel_rfl)) (fun _ _ _ h => h) (Or.inr ⟨by rfl, rfl⟩) ?_ ?_
      rotate_left
      ·
       simp only [Act.put, List.setIfInBounds_toArray, List.set_cons_zero, List.set_cons_succ, i64_w, i32_w]
       rfl
      refine pure_ (i := 15) (N := some 72) (v := undef) (a' := ?_) (L_ 16 51) rfl rfl (any_of HT_.out (by kernel_rfl)) (fun _ _ _ h => h) (Or.inr ⟨by rfl, rfl⟩) ?_ ?_
      rotate_left
      ·
       simp only [Act.put, List.setIfInBounds_toArray, List.set_cons_zero, List.set_cons_succ, i64_w, i32_w]
       rfl
      refine pure_ (i := 16) (N := some 73) (v := undef) (a' := ?_) (L_ 17 51) rfl rfl (any_of HT_.out (by kernel_rfl)) (fun _ _ _ h => h) (Or.inr ⟨by rfl, rfl⟩) ?_ ?_
      rotate_left
      ·
       simp only [Act.put, List.setIfInBounds_toArray, List.set_cons_zero, List.set_cons_succ, i64_w, i32_w]
       rfl
      refine pure_ (i := 17) (N := some 74) (v := undef) (a' := ?_) (L_ 18 51) rfl rfl (any_of HT_.out (by kernel_rfl)) (fun _ _ _ h => h) (Or.inr ⟨by rfl, rfl⟩) ?_ ?_
      rotate_left
      ·
       simp only [Act.put, List.setIfInBounds_toArray, List.set_cons_zero, List.set_cons_succ, i64_w, i32_w]
       rfl
      refine pure_ (i := 18) (N := some 75) (v := undef) (a' := ?_) (L_ 19 51) rfl rfl (any_of HT_.out (by kernel_rfl)) (fun _ _ _ h => h) (Or.inr ⟨by rfl, rfl⟩) ?_ ?_
      rotate_left
      ·
       simp only [Act.put, List.setIfInBounds_toArray, List.set_cons_zero, List.set_cons_succ, i64_w, i32_w]
       rfl
      refine pure_ (i := 19) (N := some 76) (v := undef) (a' := ?_) (L_ 20 51) rfl rfl (any_of HT_.out (by kernel_rfl)) (fun _ _ _ h => h) (Or.inr ⟨by rfl, rfl⟩) ?_ ?_
      rotate_left
      ·
       simp only [Act.put, List.setIfInBounds_toArray, List.set_cons_zero, List.set_cons_succ, i64_w, i32_w]
       rfl
      refine pure_ (i := 20) (N := some 77) (v := undef) (a' := ?_) (L_ 21 51) rfl rfl (any_of HT_.out (by kernel_rfl)) (fun _ _ _ h => h) (Or.inr ⟨by rfl, rfl⟩) ?_ ?_
      rotate_left
      ·
       simp only [Act.put, List.setIfInBounds_toArray, List.set_cons_zero, List.set_cons_succ, i64_w, i32_w]
       rfl
      refine ps 21 78 (L_ 22 51) HT_.out ?_
      refine ps 22 79 (L_ 23 51) HT_.out ?_
      refine pure_ (i := 23) (N := some 80) (v := undef) (a' := ?_) (L_ 24 51) rfl rfl (any_of HT_.out (by kernel_rfl)) (fun _ _ _ h => h) (Or.inr ⟨by rfl, rfl⟩) ?_ ?_
      rotate_left
      ·
       simp only [Act.put, List.setIfInBounds_toArray, List.set_cons_zero, List.set_cons_succ, i64_w, i32_w]
       rfl
      refine pure_ (i := 24) (N := some 81) (v := undef) (a' := ?_) (L_ 25 51) rfl rfl (any_of HT_.out (by kernel_rfl)) (fun _ _ _ h => h) (Or.inr ⟨by rfl, rfl⟩) ?_ ?_
      rotate_left
      ·
       simp only [Act.put, List.setIfInBounds_toArray, List.set_cons_zero, List.set_cons_succ, i64_w, i32_w]
       rfl
      refine pure_ (i := 25) (N := some 82) (v := undef) (a' := ?_) (L_ 26 51) rfl rfl (any_of HT_.out (by kernel_rfl)) (fun _ _ _ h => h) (Or.inr ⟨by rfl, rfl⟩) ?_ ?_
      rotate_left
      ·
       simp only [Act.put, List.setIfInBounds_toArray, List.set_cons_zero, List.set_cons_succ, i64_w, i32_w]
       rfl
      refine pure_ (i := 26) (N := some 83) (v := undef) (a' := ?_) (L_ 27 51) rfl rfl (any_of HT_.out (by kernel_rfl)) (fun _ _ _ h => h) (Or.inr ⟨by rfl, rfl⟩) ?_ ?_
      rotate_left
      ·
       simp only [Act.put, List.setIfInBounds_toArray, List.set_cons_zero, List.set_cons_succ, i64_w, i32_w]
       rfl
      refine pure_ (i := 27) (N := some 84) (v := undef) (a' := ?_) (L_ 28 51) rfl rfl (any_of HT_.out (by kernel_rfl)) (fun _ _ _ h => h) (Or.inr ⟨by rfl, rfl⟩) ?_ ?_
      rotate_left
      ·
       simp only [Act.put, List.setIfInBounds_toArray, List.set_cons_zero, List.set_cons_succ, i64_w, i32_w]
       rfl
      refine pure_ (i := 28) (N := some 85) (v := undef) (a' := ?_) (L_ 29 51) rfl rfl (any_of HT_.out (by kernel_rfl)) (fun _ _ _ h => h) (Or.inr ⟨by rfl, rfl⟩) ?_ ?_
      rotate_left
      ·
       simp only [Act.put, List.setIfInBounds_toArray, List.set_cons_zero, List.set_cons_succ, i64_w, i32_w]
       rfl
      refine pure_ (i := 29) (N := some 86) (v := undef) (a' := ?_) (L_ 30 51) rfl rfl (any_of HT_.out (by kernel_rfl)) (fun _ _ _ h => h) (Or.inr ⟨by rfl, rfl⟩) ?_ ?_
      rotate_left
      ·
       simp only [Act.put, List.setIfInBounds_toArray, List.set_cons_zero, List.set_cons_succ, i64_w, i32_w]
       rfl
      refine pure_ (i := 30) (N := some 87) (v := undef) (a' := ?_) (L_ 31 51) rfl rfl (any_of HT_.out (by kernel_rfl)) (fun _ _ _ h => h) (Or.inr ⟨by rfl, rfl⟩) ?_ ?_
      rotate_left
      ·
       simp only [Act.put, List.setIfInBounds_toArray, List.set_cons_zero, List.set_cons_succ, i64_w, i32_w]
       rfl
      refine pure_ (i := 31) (N := some 88) (v := undef) (a' := ?_) (L_ 32 51) rfl rfl (any_of HT_.out (by kernel_rfl)) (fun _ _ _ h => h) (Or.inr ⟨by rfl, rfl⟩) ?_ ?_
      rotate_left
      ·
       simp only [Act.put, List.setIfInBounds_toArray, List.set_cons_zero, List.set_cons_succ, i64_w, i32_w]
       rfl
      refine ps 32 89 (L_ 33 51) HT_.out ?_
      refine ps 33 90 (L_ 34 51) HT_.out ?_
      refine pure_ (i := 34) (N := some 91) (v := undef) (a' := ?_) (L_ 35 51) rfl rfl (any_of HT_.out (by kernel_rfl)) (fun _ _ _ h => h) (Or.inr ⟨by rfl, rfl⟩) ?_ ?_
      rotate_left
      ·
       simp only [Act.put, List.setIfInBounds_toArray, List.set_cons_zero, List.set_cons_succ, i64_w, i32_w]
       rfl
      refine pure_ (i := 35) (N := some 92) (v := undef) (a' := ?_) (L_ 36 51) rfl rfl (any_of HT_.out (by kernel_rfl)) (fun _ _ _ h => h) (Or.inr ⟨by rfl, rfl⟩) ?_ ?_
      rotate_left
      ·
       simp only [Act.put, List.setIfInBounds_toArray, List.set_cons_zero, List.set_cons_succ, i64_w, i32_w]
       rfl
      refine pure_ (i := 36) (N := some 93) (v := undef) (a' := ?_) (L_ 37 51) rfl rfl (any_of HT_.out (by kernel_rfl)) (fun _ _ _ h => h) (Or.inr ⟨by rfl, rfl⟩) ?_ ?_
      rotate_left
      ·
       simp only [Act.put, List.setIfInBounds_toArray, List.set_cons_zero, List.set_cons_succ, i64_w, i32_w]
       rfl
      refine pure_ (i := 37) (N := some 94) (v := undef) (a' := ?_) (L_ 38 51) rfl rfl (any_of HT_.out (by kernel_rfl)) (fun _ _ _ h => h) (Or.inr ⟨by rfl, rfl⟩) ?_ ?_
      rotate_left
      ·
       simp only [Act.put, List.setIfInBounds_toArray, List.set_cons_zero, List.set_cons_succ, i64_w, i32_w]
       rfl
      refine pure_ (i := 38) (N := some 95) (v := undef) (a' := ?_) (L_ 39 51) rfl rfl (any_of HT_.out (by kernel_rfl)) (fun _ _ _ h => h) (Or.inr ⟨by rfl, rfl⟩) ?_ ?_
      rotate_left
      ·
       simp only [Act.put, List.setIfInBounds_toArray, List.set_cons_zero, List.set_cons_succ, i64_w, i32_w]
       rfl
      refine pure_ (i := 39) (N := some 96) (v := undef) (a' := ?_) (L_ 40 51) rfl rfl (any_of HT_.out (by kernel_rfl)) (fun _ _ _ h => h) (Or.inr ⟨by rfl, rfl⟩) ?_ ?_
      rotate_left
      ·
       simp only [Act.put, List.setIfInBounds_toArray, List.set_cons_zero, List.set_cons_succ, i64_w, i32_w]
       rfl
      refine ps 40 97 (L_ 41 51) HT_.out ?_
      refine ps 41 98 (L_ 42 51) HT_.out ?_
      refine pure_ (i := 42) (N := some 99) (v := undef) (a' := ?_) (L_ 43 51) rfl rfl (any_of HT_.out (by kernel_rfl)) (fun _ _ _ h => h) (Or.inr ⟨by rfl, rfl⟩) ?_ ?_
      rotate_left
      ·
       simp only [Act.put, List.setIfInBounds_toArray, List.set_cons_zero, List.set_cons_succ, i64_w, i32_w]
       rfl
      refine pure_ (i := 43) (N := some 100) (v := undef) (a' := ?_) (L_ 44 51) rfl rfl (any_of HT_.out (by kernel_rfl)) (fun _ _ _ h => h) (Or.inr ⟨by rfl, rfl⟩) ?_ ?_
      rotate_left
      ·
       simp only [Act.put, List.setIfInBounds_toArray, List.set_cons_zero, List.set_cons_succ, i64_w, i32_w]
       rfl
      refine pure_ (i := 44) (N := some 101) (v := undef) (a' := ?_) (L_ 45 51) rfl rfl (any_of HT_.out (by kernel_rfl)) (fun _ _ _ h => h) (Or.inr ⟨by rfl, rfl⟩) ?_ ?_
      rotate_left
      ·
       simp only [Act.put, List.setIfInBounds_toArray, List.set_cons_zero, List.set_cons_succ, i64_w, i32_w]
       rfl
      refine pure_ (i := 45) (N := some 102) (v := undef) (a' := ?_) (L_ 46 51) rfl rfl (any_of HT_.out (by kernel_rfl)) (fun _ _ _ h => h) (Or.inr ⟨by rfl, rfl⟩) ?_ ?_
      rotate_left
      ·
       simp only [Act.put, List.setIfInBounds_toArray, List.set_cons_zero, List.set_cons_succ, i64_w, i32_w]
       rfl
      refine pure_ (i := 46) (N := some 103) (v := undef) (a' := ?_) (L_ 47 51) rfl rfl (any_of HT_.out (by kernel_rfl)) (fun _ _ _ h => h) (Or.inr ⟨by rfl, rfl⟩) ?_ ?_
      rotate_left
      ·
       simp only [Act.put, List.setIfInBounds_toArray, List.set_cons_zero, List.set_cons_succ, i64_w, i32_w]
       rfl
      refine pure_ (i := 47) (N := some 104) (v := undef) (a' := ?_) (L_ 48 51) rfl rfl (any_of HT_.out (by kernel_rfl)) (fun _ _ _ h => h) (Or.inr ⟨by rfl, rfl⟩) ?_ ?_
      rotate_left
      ·
       simp only [Act.put, List.setIfInBounds_toArray, List.set_cons_zero, List.set_cons_succ, i64_w, i32_w]
       rfl
      refine pure_ (i := 48) (N := some 105) (v := undef) (a' := ?_) (L_ 49 51) rfl rfl (any_of HT_.out (by kernel_rfl)) (fun _ _ _ h => h) (Or.inr ⟨by rfl, rfl⟩) ?_ ?_
      rotate_left
      ·
       simp only [Act.put, List.setIfInBounds_toArray, List.set_cons_zero, List.set_cons_succ, i64_w, i32_w]
       rfl
      refine pure_ (i := 49) (N := some 106) (v := undef) (a' := ?_) (L_ 50 51) rfl rfl (any_of HT_.out (by kernel_rfl)) (fun _ _ _ h => h) (Or.inr ⟨by rfl, rfl⟩) ?_ ?_
      rotate_left
      ·
       simp only [Act.put, List.setIfInBounds_toArray, List.set_cons_zero, List.set_cons_succ, i64_w, i32_w]
       rfl
      refine ps 50 107 (L_ 51 51) HT_.out ?_
      refine done_ (done_of HT_.out (by kernel_rfl)) ?_
      try go_wp2
      go_ret
      exact ⟨mE, mG⟩
     rw [if_neg c54] at H
     have c54b0 : (((rdOf ByteArray.empty t575 x7_2).toList == ([105, 110] : List UInt8)) != t587) = false := by simpa using c54
     (try (have c54b1 : decide (((rdOf ByteArray.empty t575 x7_2).toList == ([105, 110] : List UInt8)) = t587) = true := by simpa using c54))
     (try (have c54b2 : (((rdOf ByteArray.empty t575 x7_2).toList == ([105, 110] : List UInt8)) == t587) = true := by simpa using c54))
     clear c54
     replace H := Option.bind_eq_some_iff.mp H
     obtain ⟨t589, A600, H⟩ := H
     have A60 := Aside0.mk A600
     clear A600
     replace H := Option.bind_eq_some_iff.mp H
     obtain ⟨t592, A610, H⟩ := H
     have A61 := Aside0.mk A610
     clear A610
     by_cases c62 : (((rdOf ByteArray.empty t575 x7_2).toList == ([111, 117, 116] : List UInt8)) != t592) = true
     ·
      rw [if_pos c62] at H
      have c62b0 : (((rdOf ByteArray.empty t575 x7_2).toList == ([111, 117, 116] : List UInt8)) != t592) = true := c62
      (try (have c62b1 : decide (((rdOf ByteArray.empty t575 x7_2).toList == ([111, 117, 116] : List UInt8)) = t592) = false := by simpa using c62))
      (try (have c62b2 : (((rdOf ByteArray.empty t575 x7_2).toList == ([111, 117, 116] : List UInt8)) == t592) = false := by simpa using c62))
      (try (have c62b3 : ¬ (((rdOf ByteArray.empty t575 x7_2).toList == ([111, 117, 116] : List UInt8)) = t592) := by simpa using c62))
      clear c62
      obtain rfl := Option.some.inj H
      have hcz63_0 : wr.cell? ⟨gb571, 0, none⟩ = some (.int .i64 t567) := (blk_cell BK571.out 0).trans rfl
      have hcz63_1 : wr.cell? ⟨gb571, 1, none⟩ = some (.slice Ao26 t568.length co26) := (blk_cell BK571.out 1).trans rfl
      have hfz63_0 := blk_frozen BK571.out 0
      have hfz63_1 := blk_frozen BK571.out 1
      try go_wp2_with (first | ((with_reducible refine gate_callee (f := 41) rfl ?_); refine goesL_ (some 56) rfl rfl Try.func41 (by kernel_rfl) rfl #[.agg #[.int .i64 t567, .slice Ao26 t568.length co26], .int .i64 x7_2] rfl mA ?_; (with_reducible refine (impl_RoundOf.calls k2 t567 _ _ t568 x7_2 t585 _ ?side1 ?side2 A50.out).mono ?_); (case side1 => exact mC (Kd.S_reads' HO_572001.out).2.2); (case side2 => exact (Kd.S_reads' HO_572001.out).2.1); rintro e w64 ⟨rfl, hb⟩; refine ⟨_, rfl, ?_⟩; have n0_ := Aside0.mk (Kd.R_below (mR HO_4.out) hb); have n1_ := Aside0.mk (Kd.R_below (mR HO_5.out) hb); have n2_ := Aside0.mk (Kd.R_below (mR HO_6.out) hb); have n3_ := Aside0.mk (Kd.S_below (mS HO_572001.out) hb); have n4_ := Aside0.mk (blk_below (g := gb571) (o := .cells #[.int .i64 t567, .slice Ao26 t568.length co26] 28 (0, 0)) ((mK (BK571.out))) hb); have n5_ := Aside0.mk (below_step mG hb); clear HO_4 HO_5 HO_6 HO_572001 BK571 HB; have HO_4 := n0_; have HO_5 := n1_; have HO_6 := n2_; have HO_572001 := n3_; have BK571 := n4_; have HB := n5_; clear n0_ n1_ n2_ n3_ n4_ n5_; (try clear hb)))
      have n0_ := Aside0.mk (Kd.R_drew HO_4.out)
      have n1_ := Aside0.mk (Kd.R_drew HO_5.out)
      have n2_ := Aside0.mk (Kd.R_drew HO_6.out)
      have n3_ := Aside0.mk (Kd.S_drew HO_572001.out)
      have n4_ := Aside0.mk (blk_drew BK571.out)
      have n5_ := Aside0.mk (below_drew1 HB.out)
      clear HO_4 HO_5 HO_6 HO_572001 BK571 HB; have HO_4 := n0_; have HO_5 := n1_; have HO_6 := n2_; have HO_572001 := n3_; have BK571 := n4_; have HB := n5_; clear n0_ n1_ n2_ n3_ n4_ n5_
      obtain ⟨Ao66, co66, eo66⟩ := Kd.R_slice HO_5.out
      (first | subst eo66 | (injection eo66 with f1_ f2_ f3_; have f4_ := f1_.symm; have f5_ := f3_.symm; clear f1_ f2_ f3_; subst f4_; subst f5_))
      have p586 : 0 ≤ (x7_2 : Int) := mD
      have q586 : x7_2 < (t575.length : Int) := mD
      obtain ⟨ad586, e586, hx586_0⟩ := Kd.at_string (Kd.R_reads' HO_5.out).2.2 x7_2 p586 q586
      cases e586
      replace p586 := eq_true p586
      replace q586 := eq_true q586
      obtain ⟨Ao67, co67, eo67⟩ := Kd.R_slice HO_4.out
      (first | subst eo67 | (injection eo67 with f1_ f2_ f3_; have f4_ := f1_.symm; have f5_ := f3_.symm; clear f1_ f2_ f3_; subst f4_; subst f5_))
      have p588 : 0 ≤ (x7_2 : Int) := mD
      have q588 : x7_2 < (t575.length : Int) := mD
      obtain ⟨ad588, e588, hx588_0⟩ := Kd.at_string (Kd.R_reads' HO_5.out).2.2 x7_2 p588 q588
      obtain rfl : ad586 = ad588 := (by injection e588)
      replace p588 := eq_true p588
      replace q588 := eq_true q588
      refine start_ (n := 51) (S := fun w' => w'.cell? ⟨gb571, 0, none⟩ = some (.int .i64 t567) ∧ w'.cell? ⟨gb571, 1, none⟩ = some (.slice Ao26 t568.length co26) ∧ w'.cell? (ad586.add (x7_2).toNat) = some (.string (rdOf ByteArray.empty t575 x7_2)) ∧ w'.cell? (ad586.add (x7_2).toNat) = some (.string (rdOf ByteArray.empty t575 x7_2))) (ds := []) (L_ 0 51) (by kernel_rfl) rfl rfl ⟨(blk_cell BK571.out 0).trans rfl, (blk_cell BK571.out 1).trans rfl, hx586_0, hx588_0⟩ (fun hHeld => ?_); refine with_tabW laws_FnGrounded.tab17 laws_FnGrounded.bits17 (fun HT_ HW_ => ?_)
      generalize w64.drew = w65 at HO_4 HO_5 HO_6 HO_572001 BK571 HB hx586_0 hx588_0 hHeld ⊢
      refine ps 0 57 (L_ 1 51) HT_.out ?_
      refine ps 1 58 (L_ 2 51) HT_.out ?_
      refine ps 2 59 (L_ 3 51) HT_.out ?_
      refine ps 5 62 #[true, true, true, false, false, true, false, false, false, false, false, false, false, false, false, false, false, false, false, false, false, false, false, false, false, false, false, false, false, false, false, false, false, false, false, false, false, false, false, false, false, false, false, false, false, false, false, false, false, false, false] HT_.out ?_
      refine ps 6 63 #[true, true, true, false, false, true, true, false, false, false, false, false, false, false, false, false, false, false, false, false, false, false, false, false, false, false, false, false, false, false, false, false, false, false, false, false, false, false, false, false, false, false, false, false, false, false, false, false, false, false, false] HT_.out ?_
      refine take_ (i := 3) (N := some 60) (v := ?_) (a' := ?_) #[true, true, true, true, false, true, true, false, false, false, false, false, false, false, false, false, false, false, false, false, false, false, false, false, false, false, false, false, false, false, false, false, false, false, false, false, false, false, false, false, false, false, false, false, false, false, false, false, false, false, false] rfl rfl (take_ofW HT_.out HW_.out (by kernel_rfl)) (fun _ _ _ h => h) (Or.inl ⟨by rfl, ?_⟩) hHeld ?_ ?_
      rotate_left
      ·
       rintro w' ⟨s0, s1, s2, s3⟩
       go_simp
       with_reducible rfl
      rotate_left
      ·
       simp only [Act.put, List.setIfInBounds_toArray, List.set_cons_zero, List.set_cons_succ, i64_w, i32_w]
       rfl
      refine ps 4 61 (L_ 7 51) HT_.out ?_
      refine one_ (i := 7) (N := some 64) (L_ 8 51) rfl rfl (one_of HT_.out (by kernel_rfl)) (by decide) (fun K hK => ?_)
      refine goes_ Try.func51 (by kernel_rfl) rfl #[.slice Ao67 t572.length co67, .int .i64 x7_2] (by rfl) rfl rfl mA ?_
      with_reducible refine (laws_contains.calls k2 _ _ t572 x7_2 t587 _ ?side1 ?side2 A53.out).mono ?_
      (case side1 => exact mC (Kd.R_reads' HO_4.out).2.2)
      (case side2 => exact (Kd.R_reads' HO_4.out).2.1)
      rintro e w' ⟨rfl, ⟨nd, rfl⟩⟩
      refine ⟨_, rfl, ?_⟩
      refine hK.out _ _ ⟨(blk_cell BK571.out 0).trans rfl, (blk_cell BK571.out 1).trans rfl, hHeld.2.2.1, hHeld.2.2.2⟩ (fun hHeld => ?_)
      clear hK K
      refine norm_ (a' := ?_) ?_ ?_
      rotate_left
      ·
       show Act.put _ (some 64) _ = _
       simp only [Act.put, List.setIfInBounds_toArray, List.set_cons_zero, List.set_cons_succ, i64_w, i32_w]
       rfl
      refine ps 8 65 (L_ 9 51) HT_.out ?_
      refine ps 9 66 (L_ 10 51) HT_.out ?_
      refine ps 10 67 (L_ 11 51) HT_.out ?_
      refine ps 11 68 (L_ 12 51) HT_.out ?_
      refine ps 12 69 (L_ 13 51) HT_.out ?_
      refine ps 16 73 #[true, true, true, true, true, true, true, true, true, true, true, true, true, false, false, false, true, false, false, false, false, false, false, false, false, false, false, false, false, false, false, false, false, false, false, false, false, false, false, false, false, false, false, false, false, false, false, false, false, false, false] HT_.out ?_
      refine ps 18 75 #[true, true, true, true, true, true, true, true, true, true, true, true, true, false, false, false, true, false, true, false, false, false, false, false, false, false, false, false, false, false, false, false, false, false, false, false, false, false, false, false, false, false, false, false, false, false, false, false, false, false, false] HT_.out ?_
      refine take_ (i := 13) (N := some 70) (v := ?_) (a' := ?_) #[true, true, true, true, true, true, true, true, true, true, true, true, true, true, false, false, true, false, true, false, false, false, false, false, false, false, false, false, false, false, false, false, false, false, false, false, false, false, false, false, false, false, false, false, false, false, false, false, false, false, false] rfl rfl (take_ofW HT_.out HW_.out (by kernel_rfl)) (fun _ _ _ h => h) (Or.inl ⟨by rfl, ?_⟩) hHeld ?_ ?_
      rotate_left
      ·
       rintro w' ⟨s0, s1, s2, s3⟩
       go_simp
       with_reducible rfl
      rotate_left
      ·
       simp only [Act.put, List.setIfInBounds_toArray, List.set_cons_zero, List.set_cons_succ, i64_w, i32_w]
       rfl
      refine ps 14 71 #[true, true, true, true, true, true, true, true, true, true, true, true, true, true, true, false, true, false, true, false, false, false, false, false, false, false, false, false, false, false, false, false, false, false, false, false, false, false, false, false, false, false, false, false, false, false, false, false, false, false, false] HT_.out ?_
      refine take_ (i := 15) (N := some 72) (v := ?_) (a' := ?_) #[true, true, true, true, true, true, true, true, true, true, true, true, true, true, true, true, true, false, true, false, false, false, false, false, false, false, false, false, false, false, false, false, false, false, false, false, false, false, false, false, false, false, false, false, false, false, false, false, false, false, false] rfl rfl (take_ofW HT_.out HW_.out (by kernel_rfl)) (fun _ _ _ h => h) (Or.inl ⟨by rfl, ?_⟩) hHeld ?_ ?_
      rotate_left
      ·
       rintro w' ⟨s0, s1, s2, s3⟩
       go_simp
       with_reducible rfl
      rotate_left
      ·
       simp only [Act.put, List.setIfInBounds_toArray, List.set_cons_zero, List.set_cons_succ, i64_w, i32_w]
       rfl
      refine one_ (i := 17) (N := some 74) (L_ 19 51) rfl rfl (one_of HT_.out (by kernel_rfl)) (by decide) (fun K hK => ?_)
      refine goes_ Try.func24 (by kernel_rfl) rfl #[.agg #[.int .i64 t567, .slice Ao26 t568.length co26], .slice Ao67 t572.length co67] (by rfl) rfl rfl mA ?_
      with_reducible refine (impl_HitBy.calls k2 t567 _ _ t568 _ _ t572 t589 _ ?side1 ?side2 ?side3 ?side4 A60.out).mono ?_
      (case side1 => exact mC (Kd.S_reads' HO_572001.out).2.2)
      (case side2 => exact (Kd.S_reads' HO_572001.out).2.1)
      (case side3 => exact mC (Kd.R_reads' HO_4.out).2.2)
      (case side4 => exact (Kd.R_reads' HO_4.out).2.1)
      rintro e w68 ⟨v590, rfl, ho0, hb⟩
      have HS2_ := (hb.cell (World.block_lt_of_cell? _ _ (hHeld.2.2.1))).trans (hHeld.2.2.1)
      have HS3_ := (hb.cell (World.block_lt_of_cell? _ _ (hHeld.2.2.2))).trans (hHeld.2.2.2)
      refine ⟨_, rfl, ?_⟩
      have n0_ := Aside0.mk (Kd.R_elder' (mR HO_4.out) (Kd.R_base ho0) hb)
      have n1_ := Aside0.mk (Kd.R_below (mR HO_5.out) hb)
      have n2_ := Aside0.mk (Kd.R_elder' (mR HO_6.out) (Kd.R_base ho0) hb)
      have n3_ := Aside0.mk (Kd.S_elder' (mS HO_572001.out) (Kd.R_base ho0) hb)
      have n4_ := Aside0.mk (Kd.R_lower (Kd.R_new' (Kd.R_new' ho0 (Kd.R_lt (mR HO_4.out))) (Kd.R_lt (mR HO_6.out))) (below_size mG))
      have n5_ := Aside0.mk (blk_below (g := gb571) (o := .cells #[.int .i64 t567, .slice Ao26 t568.length co26] 28 (0, 0)) ((mK (BK571.out))) hb)
      have n6_ := Aside0.mk (below_step mG hb)
      clear HO_4 HO_5 HO_6 HO_572001 BK571 HB; have HO_4 := n0_; have HO_5 := n1_; have HO_6 := n2_; have HO_572001 := n3_; have HO591 := n4_; have BK571 := n5_; have HB := n6_; clear n0_ n1_ n2_ n3_ n4_ n5_ n6_; (try clear hb); (try clear ho0)
      obtain ⟨Ao69, co69, eo69⟩ := Kd.R_slice HO591.out
      (first | subst eo69 | (injection eo69 with f1_ f2_ f3_; have f4_ := f1_.symm; have f5_ := f3_.symm; clear f1_ f2_ f3_; subst f4_; subst f5_))
      refine hK.out _ _ ⟨(blk_cell BK571.out 0).trans rfl, (blk_cell BK571.out 1).trans rfl, HS2_, HS3_⟩ (fun hHeld => ?_)
      clear hK K
      refine norm_ (a' := ?_) ?_ ?_
      rotate_left
      ·
       show Act.put _ (some 74) _ = _
       simp only [Act.put, List.setIfInBounds_toArray, List.set_cons_zero, List.set_cons_succ, i64_w, i32_w]
       rfl
      refine one_ (i := 19) (N := some 76) (L_ 20 51) rfl rfl (one_of HT_.out (by kernel_rfl)) (by decide) (fun K hK => ?_)
      refine goes_ Try.func51 (by kernel_rfl) rfl #[.slice Ao69 t589.length co69, .int .i64 x7_2] (by rfl) rfl rfl mA ?_
      with_reducible refine (laws_contains.calls k2 _ _ t589 x7_2 t592 _ ?side1 ?side2 A61.out).mono ?_
      (case side1 => exact mC (Kd.R_reads' HO591.out).2.2)
      (case side2 => exact (Kd.R_reads' HO591.out).2.1)
      rintro e w' ⟨rfl, ⟨nd, rfl⟩⟩
      refine ⟨_, rfl, ?_⟩
      refine hK.out _ _ ⟨(blk_cell BK571.out 0).trans rfl, (blk_cell BK571.out 1).trans rfl, hHeld.2.2.1, hHeld.2.2.2⟩ (fun hHeld => ?_)
      clear hK K
      refine norm_ (a' := ?_) ?_ ?_
      rotate_left
      ·
       show Act.put _ (some 76) _ = _
       simp only [Act.put, List.setIfInBounds_toArray, List.set_cons_zero, List.set_cons_succ, i64_w, i32_w]
       rfl
      refine ps 20 77 (L_ 21 51) HT_.out ?_
      refine ps 21 78 (L_ 22 51) HT_.out ?_
      refine ps 22 79 (L_ 23 51) HT_.out ?_
      refine pure_ (i := 23) (N := some 80) (v := undef) (a' := ?_) (L_ 24 51) rfl rfl (any_of HT_.out (by kernel_rfl)) (fun _ _ _ h => h) (Or.inr ⟨by rfl, rfl⟩) ?_ ?_
      rotate_left
      ·
       simp only [Act.put, List.setIfInBounds_toArray, List.set_cons_zero, List.set_cons_succ, i64_w, i32_w]
       rfl
      refine pure_ (i := 24) (N := some 81) (v := undef) (a' := ?_) (L_ 25 51) rfl rfl (any_of HT_.out (by kernel_rfl)) (fun _ _ _ h => h) (Or.inr ⟨by rfl, rfl⟩) ?_ ?_
      rotate_left
      ·
       simp only [Act.put, List.setIfInBounds_toArray, List.set_cons_zero, List.set_cons_succ, i64_w, i32_w]
       rfl
      refine pure_ (i := 25) (N := some 82) (v := undef) (a' := ?_) (L_ 26 51) rfl rfl (any_of HT_.out (by kernel_rfl)) (fun _ _ _ h => h) (Or.inr ⟨by rfl, rfl⟩) ?_ ?_
      rotate_left
      ·
       simp only [Act.put, List.setIfInBounds_toArray, List.set_cons_zero, List.set_cons_succ, i64_w, i32_w]
       rfl
      refine pure_ (i := 26) (N := some 83) (v := undef) (a' := ?_) (L_ 27 51) rfl rfl (any_of HT_.out (by kernel_rfl)) (fun _ _ _ h => h) (Or.inr ⟨by rfl, rfl⟩) ?_ ?_
      rotate_left
      ·
       simp only [Act.put, List.setIfInBounds_toArray, List.set_cons_zero, List.set_cons_succ, i64_w, i32_w]
       rfl
      refine pure_ (i := 27) (N := some 84) (v := undef) (a' := ?_) (L_ 28 51) rfl rfl (any_of HT_.out (by kernel_rfl)) (fun _ _ _ h => h) (Or.inr ⟨by rfl, rfl⟩) ?_ ?_
      rotate_left
      ·
       simp only [Act.put, List.setIfInBounds_toArray, List.set_cons_zero, List.set_cons_succ, i64_w, i32_w]
       rfl
      refine pure_ (i := 28) (N := some 85) (v := undef) (a' := ?_) (L_ 29 51) rfl rfl (any_of HT_.out (by kernel_rfl)) (fun _ _ _ h => h) (Or.inr ⟨by rfl, rfl⟩) ?_ ?_
      rotate_left
      ·
       simp only [Act.put, List.setIfInBounds_toArray, List.set_cons_zero, List.set_cons_succ, i64_w, i32_w]
       rfl
      refine pure_ (i := 29) (N := some 86) (v := undef) (a' := ?_) (L_ 30 51) rfl rfl (any_of HT_.out (by kernel_rfl)) (fun _ _ _ h => h) (Or.inr ⟨by rfl, rfl⟩) ?_ ?_
      rotate_left
      ·
       simp only [Act.put, List.setIfInBounds_toArray, List.set_cons_zero, List.set_cons_succ, i64_w, i32_w]
       rfl
      refine pure_ (i := 30) (N := some 87) (v := undef) (a' := ?_) (L_ 31 51) rfl rfl (any_of HT_.out (by kernel_rfl)) (fun _ _ _ h => h) (Or.inr ⟨by rfl, rfl⟩) ?_ ?_
      rotate_left
      ·
       simp only [Act.put, List.setIfInBounds_toArray, List.set_cons_zero, List.set_cons_succ, i64_w, i32_w]
       rfl
      refine pure_ (i := 31) (N := some 88) (v := undef) (a' := ?_) (L_ 32 51) rfl rfl (any_of HT_.out (by kernel_rfl)) (fun _ _ _ h => h) (Or.inr ⟨by rfl, rfl⟩) ?_ ?_
      rotate_left
      ·
       simp only [Act.put, List.setIfInBounds_toArray, List.set_cons_zero, List.set_cons_succ, i64_w, i32_w]
       rfl
      refine ps 32 89 (L_ 33 51) HT_.out ?_
      refine ps 33 90 (L_ 34 51) HT_.out ?_
      refine pure_ (i := 34) (N := some 91) (v := undef) (a' := ?_) (L_ 35 51) rfl rfl (any_of HT_.out (by kernel_rfl)) (fun _ _ _ h => h) (Or.inr ⟨by rfl, rfl⟩) ?_ ?_
      rotate_left
      ·
       simp only [Act.put, List.setIfInBounds_toArray, List.set_cons_zero, List.set_cons_succ, i64_w, i32_w]
       rfl
      refine pure_ (i := 35) (N := some 92) (v := undef) (a' := ?_) (L_ 36 51) rfl rfl (any_of HT_.out (by kernel_rfl)) (fun _ _ _ h => h) (Or.inr ⟨by rfl, rfl⟩) ?_ ?_
      rotate_left
      ·
       simp only [Act.put, List.setIfInBounds_toArray, List.set_cons_zero, List.set_cons_succ, i64_w, i32_w]
       rfl
      refine pure_ (i := 36) (N := some 93) (v := undef) (a' := ?_) (L_ 37 51) rfl rfl (any_of HT_.out (by kernel_rfl)) (fun _ _ _ h => h) (Or.inr ⟨by rfl, rfl⟩) ?_ ?_
      rotate_left
      ·
       simp only [Act.put, List.setIfInBounds_toArray, List.set_cons_zero, List.set_cons_succ, i64_w, i32_w]
       rfl
      refine pure_ (i := 37) (N := some 94) (v := undef) (a' := ?_) (L_ 38 51) rfl rfl (any_of HT_.out (by kernel_rfl)) (fun _ _ _ h => h) (Or.inr ⟨by rfl, rfl⟩) ?_ ?_
      rotate_left
      ·
       simp only [Act.put, List.setIfInBounds_toArray, List.set_cons_zero, List.set_cons_succ, i64_w, i32_w]
       rfl
      refine pure_ (i := 38) (N := some 95) (v := undef) (a' := ?_) (L_ 39 51) rfl rfl (any_of HT_.out (by kernel_rfl)) (fun _ _ _ h => h) (Or.inr ⟨by rfl, rfl⟩) ?_ ?_
      rotate_left
      ·
       simp only [Act.put, List.setIfInBounds_toArray, List.set_cons_zero, List.set_cons_succ, i64_w, i32_w]
       rfl
      refine pure_ (i := 39) (N := some 96) (v := undef) (a' := ?_) (L_ 40 51) rfl rfl (any_of HT_.out (by kernel_rfl)) (fun _ _ _ h => h) (Or.inr ⟨by rfl, rfl⟩) ?_ ?_
      rotate_left
      ·
       simp only [Act.put, List.setIfInBounds_toArray, List.set_cons_zero, List.set_cons_succ, i64_w, i32_w]
       rfl
      refine ps 40 97 (L_ 41 51) HT_.out ?_
      refine ps 41 98 (L_ 42 51) HT_.out ?_
      refine pure_ (i := 42) (N := some 99) (v := undef) (a' := ?_) (L_ 43 51) rfl rfl (any_of HT_.out (by kernel_rfl)) (fun _ _ _ h => h) (Or.inr ⟨by rfl, rfl⟩) ?_ ?_
      rotate_left
      ·
       simp only [Act.put, List.setIfInBounds_toArray, List.set_cons_zero, List.set_cons_succ, i64_w, i32_w]
       rfl
      refine pure_ (i := 43) (N := some 100) (v := undef) (a' := ?_) (L_ 44 51) rfl rfl (any_of HT_.out (by kernel_rfl)) (fun _ _ _ h => h) (Or.inr ⟨by rfl, rfl⟩) ?_ ?_
      rotate_left
      ·
       simp only [Act.put, List.setIfInBounds_toArray, List.set_cons_zero, List.set_cons_succ, i64_w, i32_w]
       rfl
      refine pure_ (i := 44) (N := some 101) (v := undef) (a' := ?_) (L_ 45 51) rfl rfl (any_of HT_.out (by kernel_rfl)) (fun _ _ _ h => h) (Or.inr ⟨by rfl, rfl⟩) ?_ ?_
      rotate_left
      ·
       simp only [Act.put, List.setIfInBounds_toArray, List.set_cons_zero, List.set_cons_succ, i64_w, i32_w]
       rfl
      refine pure_ (i := 45) (N := some 102) (v := undef) (a' := ?_) (L_ 46 51) rfl rfl (any_of HT_.out (by kernel_rfl)) (fun _ _ _ h => h) (Or.inr ⟨by rfl, rfl⟩) ?_ ?_
      rotate_left
      ·
       simp only [Act.put, List.setIfInBounds_toArray, List.set_cons_zero, List.set_cons_succ, i64_w, i32_w]
       rfl
      refine pure_ (i := 46) (N := some 103) (v := undef) (a' := ?_) (L_ 47 51) rfl rfl (any_of HT_.out (by kernel_rfl)) (fun _ _ _ h => h) (Or.inr ⟨by rfl, rfl⟩) ?_ ?_
      rotate_left
      ·
       simp only [Act.put, List.setIfInBounds_toArray, List.set_cons_zero, List.set_cons_succ, i64_w, i32_w]
       rfl
      refine pure_ (i := 47) (N := some 104) (v := undef) (a' := ?_) (L_ 48 51) rfl rfl (any_of HT_.out (by kernel_rfl)) (fun _ _ _ h => h) (Or.inr ⟨by rfl, rfl⟩) ?_ ?_
      rotate_left
      ·
       simp only [Act.put, List.setIfInBounds_toArray, List.set_cons_zero, List.set_cons_succ, i64_w, i32_w]
       rfl
      refine pure_ (i := 48) (N := some 105) (v := undef) (a' := ?_) (L_ 49 51) rfl rfl (any_of HT_.out (by kernel_rfl)) (fun _ _ _ h => h) (Or.inr ⟨by rfl, rfl⟩) ?_ ?_
      rotate_left
      ·
       simp only [Act.put, List.setIfInBounds_toArray, List.set_cons_zero, List.set_cons_succ, i64_w, i32_w]
       rfl
      refine pure_ (i := 49) (N := some 106) (v := undef) (a' := ?_) (L_ 50 51) rfl rfl (any_of HT_.out (by kernel_rfl)) (fun _ _ _ h => h) (Or.inr ⟨by rfl, rfl⟩) ?_ ?_
      rotate_left
      ·
       simp only [Act.put, List.setIfInBounds_toArray, List.set_cons_zero, List.set_cons_succ, i64_w, i32_w]
       rfl
      refine ps 50 107 (L_ 51 51) HT_.out ?_
      refine done_ (done_of HT_.out (by kernel_rfl)) ?_
      try go_wp2
      go_ret
      exact ⟨mE, mG⟩
     rw [if_neg c62] at H
     have c62b0 : (((rdOf ByteArray.empty t575 x7_2).toList == ([111, 117, 116] : List UInt8)) != t592) = false := by simpa using c62
     (try (have c62b1 : decide (((rdOf ByteArray.empty t575 x7_2).toList == ([111, 117, 116] : List UInt8)) = t592) = true := by simpa using c62))
     (try (have c62b2 : (((rdOf ByteArray.empty t575 x7_2).toList == ([111, 117, 116] : List UInt8)) == t592) = true := by simpa using c62))
     clear c62
     replace H := Option.bind_eq_some_iff.mp H
     obtain ⟨t594, A700, H⟩ := H
     have A70 := Aside0.mk A700
     clear A700
     by_cases c71 : (((rdOf ByteArray.empty t575 x7_2).toList == ([111, 112, 101, 110] : List UInt8)) != t594) = true
     ·
      rw [if_pos c71] at H
      have c71b0 : (((rdOf ByteArray.empty t575 x7_2).toList == ([111, 112, 101, 110] : List UInt8)) != t594) = true := c71
      (try (have c71b1 : decide (((rdOf ByteArray.empty t575 x7_2).toList == ([111, 112, 101, 110] : List UInt8)) = t594) = false := by simpa using c71))
      (try (have c71b2 : (((rdOf ByteArray.empty t575 x7_2).toList == ([111, 112, 101, 110] : List UInt8)) == t594) = false := by simpa using c71))
      (try (have c71b3 : ¬ (((rdOf ByteArray.empty t575 x7_2).toList == ([111, 112, 101, 110] : List UInt8)) = t594) := by simpa using c71))
      clear c71
      obtain rfl := Option.some.inj H
      have hcz72_0 : wr.cell? ⟨gb571, 0, none⟩ = some (.int .i64 t567) := (blk_cell BK571.out 0).trans rfl
      have hcz72_1 : wr.cell? ⟨gb571, 1, none⟩ = some (.slice Ao26 t568.length co26) := (blk_cell BK571.out 1).trans rfl
      have hfz72_0 := blk_frozen BK571.out 0
      have hfz72_1 := blk_frozen BK571.out 1
      try go_wp2_with (first | ((with_reducible refine gate_callee (f := 41) rfl ?_); refine goesL_ (some 56) rfl rfl Try.func41 (by kernel_rfl) rfl #[.agg #[.int .i64 t567, .slice Ao26 t568.length co26], .int .i64 x7_2] rfl mA ?_; (with_reducible refine (impl_RoundOf.calls k2 t567 _ _ t568 x7_2 t585 _ ?side1 ?side2 A50.out).mono ?_); (case side1 => exact mC (Kd.S_reads' HO_572001.out).2.2); (case side2 => exact (Kd.S_reads' HO_572001.out).2.1); rintro e w73 ⟨rfl, hb⟩; refine ⟨_, rfl, ?_⟩; have n0_ := Aside0.mk (Kd.R_below (mR HO_4.out) hb); have n1_ := Aside0.mk (Kd.R_below (mR HO_5.out) hb); have n2_ := Aside0.mk (Kd.R_below (mR HO_6.out) hb); have n3_ := Aside0.mk (Kd.S_below (mS HO_572001.out) hb); have n4_ := Aside0.mk (blk_below (g := gb571) (o := .cells #[.int .i64 t567, .slice Ao26 t568.length co26] 28 (0, 0)) ((mK (BK571.out))) hb); have n5_ := Aside0.mk (below_step mG hb); clear HO_4 HO_5 HO_6 HO_572001 BK571 HB; have HO_4 := n0_; have HO_5 := n1_; have HO_6 := n2_; have HO_572001 := n3_; have BK571 := n4_; have HB := n5_; clear n0_ n1_ n2_ n3_ n4_ n5_; (try clear hb)))
      have n0_ := Aside0.mk (Kd.R_drew HO_4.out)
      have n1_ := Aside0.mk (Kd.R_drew HO_5.out)
      have n2_ := Aside0.mk (Kd.R_drew HO_6.out)
      have n3_ := Aside0.mk (Kd.S_drew HO_572001.out)
      have n4_ := Aside0.mk (blk_drew BK571.out)
      have n5_ := Aside0.mk (below_drew1 HB.out)
      clear HO_4 HO_5 HO_6 HO_572001 BK571 HB; have HO_4 := n0_; have HO_5 := n1_; have HO_6 := n2_; have HO_572001 := n3_; have BK571 := n4_; have HB := n5_; clear n0_ n1_ n2_ n3_ n4_ n5_
      obtain ⟨Ao75, co75, eo75⟩ := Kd.R_slice HO_5.out
      (first | subst eo75 | (injection eo75 with f1_ f2_ f3_; have f4_ := f1_.symm; have f5_ := f3_.symm; clear f1_ f2_ f3_; subst f4_; subst f5_))
      have p586 : 0 ≤ (x7_2 : Int) := mD
      have q586 : x7_2 < (t575.length : Int) := mD
      obtain ⟨ad586, e586, hx586_0⟩ := Kd.at_string (Kd.R_reads' HO_5.out).2.2 x7_2 p586 q586
      cases e586
      replace p586 := eq_true p586
      replace q586 := eq_true q586
      obtain ⟨Ao76, co76, eo76⟩ := Kd.R_slice HO_4.out
      (first | subst eo76 | (injection eo76 with f1_ f2_ f3_; have f4_ := f1_.symm; have f5_ := f3_.symm; clear f1_ f2_ f3_; subst f4_; subst f5_))
      have p588 : 0 ≤ (x7_2 : Int) := mD
      have q588 : x7_2 < (t575.length : Int) := mD
      obtain ⟨ad588, e588, hx588_0⟩ := Kd.at_string (Kd.R_reads' HO_5.out).2.2 x7_2 p588 q588
      obtain rfl : ad586 = ad588 := (by injection e588)
      replace p588 := eq_true p588
      replace q588 := eq_true q588
      have p593 : 0 ≤ (x7_2 : Int) := mD
      have q593 : x7_2 < (t575.length : Int) := mD
      obtain ⟨ad593, e593, hx593_0⟩ := Kd.at_string (Kd.R_reads' HO_5.out).2.2 x7_2 p593 q593
      obtain rfl : ad586 = ad593 := (by injection e593)
      replace p593 := eq_true p593
      replace q593 := eq_true q593
      refine start_ (n := 51) (S := fun w' => w'.cell? ⟨gb571, 0, none⟩ = some (.int .i64 t567) ∧ w'.cell? ⟨gb571, 1, none⟩ = some (.slice Ao26 t568.length co26) ∧ w'.cell? (ad586.add (x7_2).toNat) = some (.string (rdOf ByteArray.empty t575 x7_2)) ∧ w'.cell? (ad586.add (x7_2).toNat) = some (.string (rdOf ByteArray.empty t575 x7_2)) ∧ w'.cell? (ad586.add (x7_2).toNat) = some (.string (rdOf ByteArray.empty t575 x7_2))) (ds := []) (L_ 0 51) (by kernel_rfl) rfl rfl ⟨(blk_cell BK571.out 0).trans rfl, (blk_cell BK571.out 1).trans rfl, hx586_0, hx588_0, hx593_0⟩ (fun hHeld => ?_); refine with_tabW laws_FnGrounded.tab17 laws_FnGrounded.bits17 (fun HT_ HW_ => ?_)
      generalize w73.drew = w74 at HO_4 HO_5 HO_6 HO_572001 BK571 HB hx586_0 hx588_0 hx593_0 hHeld ⊢
      refine ps 0 57 (L_ 1 51) HT_.out ?_
      refine ps 1 58 (L_ 2 51) HT_.out ?_
      refine ps 2 59 (L_ 3 51) HT_.out ?_
      refine ps 5 62 #[true, true, true, false, false, true, false, false, false, false, false, false, false, false, false, false, false, false, false, false, false, false, false, false, false, false, false, false, false, false, false, false, false, false, false, false, false, false, false, false, false, false, false, false, false, false, false, false, false, false, false] HT_.out ?_
      refine ps 6 63 #[true, true, true, false, false, true, true, false, false, false, false, false, false, false, false, false, false, false, false, false, false, false, false, false, false, false, false, false, false, false, false, false, false, false, false, false, false, false, false, false, false, false, false, false, false, false, false, false, false, false, false] HT_.out ?_
      refine take_ (i := 3) (N := some 60) (v := ?_) (a' := ?_) #[true, true, true, true, false, true, true, false, false, false, false, false, false, false, false, false, false, false, false, false, false, false, false, false, false, false, false, false, false, false, false, false, false, false, false, false, false, false, false, false, false, false, false, false, false, false, false, false, false, false, false] rfl rfl (take_ofW HT_.out HW_.out (by kernel_rfl)) (fun _ _ _ h => h) (Or.inl ⟨by rfl, ?_⟩) hHeld ?_ ?_
      rotate_left
      ·
       rintro w' ⟨s0, s1, s2, s3, s4⟩
       go_simp
       with_reducible rfl
      rotate_left
      ·
       simp only [Act.put, List.setIfInBounds_toArray, List.set_cons_zero, List.set_cons_succ, i64_w, i32_w]
       rfl
      refine ps 4 61 (L_ 7 51) HT_.out ?_
      refine one_ (i := 7) (N := some 64) (L_ 8 51) rfl rfl (one_of HT_.out (by kernel_rfl)) (by decide) (fun K hK => ?_)
      refine goes_ Try.func51 (by kernel_rfl) rfl #[.slice Ao76 t572.length co76, .int .i64 x7_2] (by rfl) rfl rfl mA ?_
      with_reducible refine (laws_contains.calls k2 _ _ t572 x7_2 t587 _ ?side1 ?side2 A53.out).mono ?_
      (case side1 => exact mC (Kd.R_reads' HO_4.out).2.2)
      (case side2 => exact (Kd.R_reads' HO_4.out).2.1)
      rintro e w' ⟨rfl, ⟨nd, rfl⟩⟩
      refine ⟨_, rfl, ?_⟩
      refine hK.out _ _ ⟨(blk_cell BK571.out 0).trans rfl, (blk_cell BK571.out 1).trans rfl, hHeld.2.2.1, hHeld.2.2.2.1, hHeld.2.2.2.2⟩ (fun hHeld => ?_)
      clear hK K
      refine norm_ (a' := ?_) ?_ ?_
      rotate_left
      ·
       show Act.put _ (some 64) _ = _
       simp only [Act.put, List.setIfInBounds_toArray, List.set_cons_zero, List.set_cons_succ, i64_w, i32_w]
       rfl
      refine ps 8 65 (L_ 9 51) HT_.out ?_
      refine ps 9 66 (L_ 10 51) HT_.out ?_
      refine ps 10 67 (L_ 11 51) HT_.out ?_
      refine ps 11 68 (L_ 12 51) HT_.out ?_
      refine ps 12 69 (L_ 13 51) HT_.out ?_
      refine ps 16 73 #[true, true, true, true, true, true, true, true, true, true, true, true, true, false, false, false, true, false, false, false, false, false, false, false, false, false, false, false, false, false, false, false, false, false, false, false, false, false, false, false, false, false, false, false, false, false, false, false, false, false, false] HT_.out ?_
      refine ps 18 75 #[true, true, true, true, true, true, true, true, true, true, true, true, true, false, false, false, true, false, true, false, false, false, false, false, false, false, false, false, false, false, false, false, false, false, false, false, false, false, false, false, false, false, false, false, false, false, false, false, false, false, false] HT_.out ?_
      refine take_ (i := 13) (N := some 70) (v := ?_) (a' := ?_) #[true, true, true, true, true, true, true, true, true, true, true, true, true, true, false, false, true, false, true, false, false, false, false, false, false, false, false, false, false, false, false, false, false, false, false, false, false, false, false, false, false, false, false, false, false, false, false, false, false, false, false] rfl rfl (take_ofW HT_.out HW_.out (by kernel_rfl)) (fun _ _ _ h => h) (Or.inl ⟨by rfl, ?_⟩) hHeld ?_ ?_
      rotate_left
      ·
       rintro w' ⟨s0, s1, s2, s3, s4⟩
       go_simp
       with_reducible rfl
      rotate_left
      ·
       simp only [Act.put, List.setIfInBounds_toArray, List.set_cons_zero, List.set_cons_succ, i64_w, i32_w]
       rfl
      refine ps 14 71 #[true, true, true, true, true, true, true, true, true, true, true, true, true, true, true, false, true, false, true, false, false, false, false, false, false, false, false, false, false, false, false, false, false, false, false, false, false, false, false, false, false, false, false, false, false, false, false, false, false, false, false] HT_.out ?_
      refine take_ (i := 15) (N := some 72) (v := ?_) (a' := ?_) #[true, true, true, true, true, true, true, true, true, true, true, true, true, true, true, true, true, false, true, false, false, false, false, false, false, false, false, false, false, false, false, false, false, false, false, false, false, false, false, false, false, false, false, false, false, false, false, false, false, false, false] rfl rfl (take_ofW HT_.out HW_.out (by kernel_rfl)) (fun _ _ _ h => h) (Or.inl ⟨by rfl, ?_⟩) hHeld ?_ ?_
      rotate_left
      ·
       rintro w' ⟨s0, s1, s2, s3, s4⟩
       go_simp
       with_reducible rfl
      rotate_left
      ·
       simp only [Act.put, List.setIfInBounds_toArray, List.set_cons_zero, List.set_cons_succ, i64_w, i32_w]
       rfl
      refine one_ (i := 17) (N := some 74) (L_ 19 51) rfl rfl (one_of HT_.out (by kernel_rfl)) (by decide) (fun K hK => ?_)
      refine goes_ Try.func24 (by kernel_rfl) rfl #[.agg #[.int .i64 t567, .slice Ao26 t568.length co26], .slice Ao76 t572.length co76] (by rfl) rfl rfl mA ?_
      with_reducible refine (impl_HitBy.calls k2 t567 _ _ t568 _ _ t572 t589 _ ?side1 ?side2 ?side3 ?side4 A60.out).mono ?_
      (case side1 => exact mC (Kd.S_reads' HO_572001.out).2.2)
      (case side2 => exact (Kd.S_reads' HO_572001.out).2.1)
      (case side3 => exact mC (Kd.R_reads' HO_4.out).2.2)
      (case side4 => exact (Kd.R_reads' HO_4.out).2.1)
      rintro e w77 ⟨v590, rfl, ho0, hb⟩
      have HS2_ := (hb.cell (World.block_lt_of_cell? _ _ (hHeld.2.2.1))).trans (hHeld.2.2.1)
      have HS3_ := (hb.cell (World.block_lt_of_cell? _ _ (hHeld.2.2.2.1))).trans (hHeld.2.2.2.1)
      have HS4_ := (hb.cell (World.block_lt_of_cell? _ _ (hHeld.2.2.2.2))).trans (hHeld.2.2.2.2)
      refine ⟨_, rfl, ?_⟩
      have n0_ := Aside0.mk (Kd.R_elder' (mR HO_4.out) (Kd.R_base ho0) hb)
      have n1_ := Aside0.mk (Kd.R_below (mR HO_5.out) hb)
      have n2_ := Aside0.mk (Kd.R_elder' (mR HO_6.out) (Kd.R_base ho0) hb)
      have n3_ := Aside0.mk (Kd.S_elder' (mS HO_572001.out) (Kd.R_base ho0) hb)
      have n4_ := Aside0.mk (Kd.R_lower (Kd.R_new' (Kd.R_new' ho0 (Kd.R_lt (mR HO_4.out))) (Kd.R_lt (mR HO_6.out))) (below_size mG))
      have n5_ := Aside0.mk (blk_below (g := gb571) (o := .cells #[.int .i64 t567, .slice Ao26 t568.length co26] 28 (0, 0)) ((mK (BK571.out))) hb)
      have n6_ := Aside0.mk (below_step mG hb)
      clear HO_4 HO_5 HO_6 HO_572001 BK571 HB; have HO_4 := n0_; have HO_5 := n1_; have HO_6 := n2_; have HO_572001 := n3_; have HO591 := n4_; have BK571 := n5_; have HB := n6_; clear n0_ n1_ n2_ n3_ n4_ n5_ n6_; (try clear hb); (try clear ho0)
      obtain ⟨Ao78, co78, eo78⟩ := Kd.R_slice HO591.out
      (first | subst eo78 | (injection eo78 with f1_ f2_ f3_; have f4_ := f1_.symm; have f5_ := f3_.symm; clear f1_ f2_ f3_; subst f4_; subst f5_))
      refine hK.out _ _ ⟨(blk_cell BK571.out 0).trans rfl, (blk_cell BK571.out 1).trans rfl, HS2_, HS3_, HS4_⟩ (fun hHeld => ?_)
      clear hK K
      refine norm_ (a' := ?_) ?_ ?_
      rotate_left
      ·
       show Act.put _ (some 74) _ = _
       simp only [Act.put, List.setIfInBounds_toArray, List.set_cons_zero, List.set_cons_succ, i64_w, i32_w]
       rfl
      refine one_ (i := 19) (N := some 76) (L_ 20 51) rfl rfl (one_of HT_.out (by kernel_rfl)) (by decide) (fun K hK => ?_)
      refine goes_ Try.func51 (by kernel_rfl) rfl #[.slice Ao78 t589.length co78, .int .i64 x7_2] (by rfl) rfl rfl mA ?_
      with_reducible refine (laws_contains.calls k2 _ _ t589 x7_2 t592 _ ?side1 ?side2 A61.out).mono ?_
      (case side1 => exact mC (Kd.R_reads' HO591.out).2.2)
      (case side2 => exact (Kd.R_reads' HO591.out).2.1)
      rintro e w' ⟨rfl, ⟨nd, rfl⟩⟩
      refine ⟨_, rfl, ?_⟩
      obtain ⟨Ao79, co79, eo79⟩ := Kd.R_slice HO_6.out
      (first | subst eo79 | (injection eo79 with f1_ f2_ f3_; have f4_ := f1_.symm; have f5_ := f3_.symm; clear f1_ f2_ f3_; subst f4_; subst f5_))
      refine hK.out _ _ ⟨(blk_cell BK571.out 0).trans rfl, (blk_cell BK571.out 1).trans rfl, hHeld.2.2.1, hHeld.2.2.2.1, hHeld.2.2.2.2⟩ (fun hHeld => ?_)
      clear hK K
      refine norm_ (a' := ?_) ?_ ?_
      rotate_left
      ·
       show Act.put _ (some 76) _ = _
       simp only [Act.put, List.setIfInBounds_toArray, List.set_cons_zero, List.set_cons_succ, i64_w, i32_w]
       rfl
      refine ps 20 77 (L_ 21 51) HT_.out ?_
      refine ps 21 78 (L_ 22 51) HT_.out ?_
      refine ps 22 79 (L_ 23 51) HT_.out ?_
      refine ps 23 80 (L_ 24 51) HT_.out ?_
      refine ps 24 81 (L_ 25 51) HT_.out ?_
      refine ps 25 82 (L_ 26 51) HT_.out ?_
      refine ps 28 85 #[true, true, true, true, true, true, true, true, true, true, true, true, true, true, true, true, true, true, true, true, true, true, true, true, true, true, false, false, true, false, false, false, false, false, false, false, false, false, false, false, false, false, false, false, false, false, false, false, false, false, false] HT_.out ?_
      refine ps 29 86 #[true, true, true, true, true, true, true, true, true, true, true, true, true, true, true, true, true, true, true, true, true, true, true, true, true, true, false, false, true, true, false, false, false, false, false, false, false, false, false, false, false, false, false, false, false, false, false, false, false, false, false] HT_.out ?_
      refine take_ (i := 26) (N := some 83) (v := ?_) (a' := ?_) #[true, true, true, true, true, true, true, true, true, true, true, true, true, true, true, true, true, true, true, true, true, true, true, true, true, true, true, false, true, true, false, false, false, false, false, false, false, false, false, false, false, false, false, false, false, false, false, false, false, false, false] rfl rfl (take_ofW HT_.out HW_.out (by kernel_rfl)) (fun _ _ _ h => h) (Or.inl ⟨by rfl, ?_⟩) hHeld ?_ ?_
      rotate_left
      ·
       rintro w' ⟨s0, s1, s2, s3, s4⟩
       go_simp
       with_reducible rfl
      rotate_left
      ·
       simp only [Act.put, List.setIfInBounds_toArray, List.set_cons_zero, List.set_cons_succ, i64_w, i32_w]
       rfl
      refine ps 27 84 (L_ 30 51) HT_.out ?_
      refine one_ (i := 30) (N := some 87) (L_ 31 51) rfl rfl (one_of HT_.out (by kernel_rfl)) (by decide) (fun K hK => ?_)
      refine goes_ Try.func51 (by kernel_rfl) rfl #[.slice Ao79 t582.length co79, .int .i64 x7_2] (by rfl) rfl rfl mA ?_
      with_reducible refine (laws_contains.calls k2 _ _ t582 x7_2 t594 _ ?side1 ?side2 A70.out).mono ?_
      (case side1 => exact mC (Kd.R_reads' HO_6.out).2.2)
      (case side2 => exact (Kd.R_reads' HO_6.out).2.1)
      rintro e w' ⟨rfl, ⟨nd, rfl⟩⟩
      refine ⟨_, rfl, ?_⟩
      refine hK.out _ _ ⟨(blk_cell BK571.out 0).trans rfl, (blk_cell BK571.out 1).trans rfl, hHeld.2.2.1, hHeld.2.2.2.1, hHeld.2.2.2.2⟩ (fun hHeld => ?_)
      clear hK K
      refine norm_ (a' := ?_) ?_ ?_
      rotate_left
      ·
       show Act.put _ (some 87) _ = _
       simp only [Act.put, List.setIfInBounds_toArray, List.set_cons_zero, List.set_cons_succ, i64_w, i32_w]
       rfl
      refine ps 31 88 (L_ 32 51) HT_.out ?_
      refine ps 32 89 (L_ 33 51) HT_.out ?_
      refine ps 33 90 (L_ 34 51) HT_.out ?_
      refine pure_ (i := 34) (N := some 91) (v := undef) (a' := ?_) (L_ 35 51) rfl rfl (any_of HT_.out (by kernel_rfl)) (fun _ _ _ h => h) (Or.inr ⟨by rfl, rfl⟩) ?_ ?_
      rotate_left
      ·
       simp only [Act.put, List.setIfInBounds_toArray, List.set_cons_zero, List.set_cons_succ, i64_w, i32_w]
       rfl
      refine pure_ (i := 35) (N := some 92) (v := undef) (a' := ?_) (L_ 36 51) rfl rfl (any_of HT_.out (by kernel_rfl)) (fun _ _ _ h => h) (Or.inr ⟨by rfl, rfl⟩) ?_ ?_
      rotate_left
      ·
       simp only [Act.put, List.setIfInBounds_toArray, List.set_cons_zero, List.set_cons_succ, i64_w, i32_w]
       rfl
      refine pure_ (i := 36) (N := some 93) (v := undef) (a' := ?_) (L_ 37 51) rfl rfl (any_of HT_.out (by kernel_rfl)) (fun _ _ _ h => h) (Or.inr ⟨by rfl, rfl⟩) ?_ ?_
      rotate_left
      ·
       simp only [Act.put, List.setIfInBounds_toArray, List.set_cons_zero, List.set_cons_succ, i64_w, i32_w]
       rfl
      refine pure_ (i := 37) (N := some 94) (v := undef) (a' := ?_) (L_ 38 51) rfl rfl (any_of HT_.out (by kernel_rfl)) (fun _ _ _ h => h) (Or.inr ⟨by rfl, rfl⟩) ?_ ?_
      rotate_left
      ·
       simp only [Act.put, List.setIfInBounds_toArray, List.set_cons_zero, List.set_cons_succ, i64_w, i32_w]
       rfl
      refine pure_ (i := 38) (N := some 95) (v := undef) (a' := ?_) (L_ 39 51) rfl rfl (any_of HT_.out (by kernel_rfl)) (fun _ _ _ h => h) (Or.inr ⟨by rfl, rfl⟩) ?_ ?_
      rotate_left
      ·
       simp only [Act.put, List.setIfInBounds_toArray, List.set_cons_zero, List.set_cons_succ, i64_w, i32_w]
       rfl
      refine pure_ (i := 39) (N := some 96) (v := undef) (a' := ?_) (L_ 40 51) rfl rfl (any_of HT_.out (by kernel_rfl)) (fun _ _ _ h => h) (Or.inr ⟨by rfl, rfl⟩) ?_ ?_
      rotate_left
      ·
       simp only [Act.put, List.setIfInBounds_toArray, List.set_cons_zero, List.set_cons_succ, i64_w, i32_w]
       rfl
      refine ps 40 97 (L_ 41 51) HT_.out ?_
      refine ps 41 98 (L_ 42 51) HT_.out ?_
      refine pure_ (i := 42) (N := some 99) (v := undef) (a' := ?_) (L_ 43 51) rfl rfl (any_of HT_.out (by kernel_rfl)) (fun _ _ _ h => h) (Or.inr ⟨by rfl, rfl⟩) ?_ ?_
      rotate_left
      ·
       simp only [Act.put, List.setIfInBounds_toArray, List.set_cons_zero, List.set_cons_succ, i64_w, i32_w]
       rfl
      refine pure_ (i := 43) (N := some 100) (v := undef) (a' := ?_) (L_ 44 51) rfl rfl (any_of HT_.out (by kernel_rfl)) (fun _ _ _ h => h) (Or.inr ⟨by rfl, rfl⟩) ?_ ?_
      rotate_left
      ·
       simp only [Act.put, List.setIfInBounds_toArray, List.set_cons_zero, List.set_cons_succ, i64_w, i32_w]
       rfl
      refine pure_ (i := 44) (N := some 101) (v := undef) (a' := ?_) (L_ 45 51) rfl rfl (any_of HT_.out (by kernel_rfl)) (fun _ _ _ h => h) (Or.inr ⟨by rfl, rfl⟩) ?_ ?_
      rotate_left
      ·
       simp only [Act.put, List.setIfInBounds_toArray, List.set_cons_zero, List.set_cons_succ, i64_w, i32_w]
       rfl
      refine pure_ (i := 45) (N := some 102) (v := undef) (a' := ?_) (L_ 46 51) rfl rfl (any_of HT_.out (by kernel_rfl)) (fun _ _ _ h => h) (Or.inr ⟨by rfl, rfl⟩) ?_ ?_
      rotate_left
      ·
       simp only [Act.put, List.setIfInBounds_toArray, List.set_cons_zero, List.set_cons_succ, i64_w, i32_w]
       rfl
      refine pure_ (i := 46) (N := some 103) (v := undef) (a' := ?_) (L_ 47 51) rfl rfl (any_of HT_.out (by kernel_rfl)) (fun _ _ _ h => h) (Or.inr ⟨by rfl, rfl⟩) ?_ ?_
      rotate_left
      ·
       simp only [Act.put, List.setIfInBounds_toArray, List.set_cons_zero, List.set_cons_succ, i64_w, i32_w]
       rfl
      refine pure_ (i := 47) (N := some 104) (v := undef) (a' := ?_) (L_ 48 51) rfl rfl (any_of HT_.out (by kernel_rfl)) (fun _ _ _ h => h) (Or.inr ⟨by rfl, rfl⟩) ?_ ?_
      rotate_left
      ·
       simp only [Act.put, List.setIfInBounds_toArray, List.set_cons_zero, List.set_cons_succ, i64_w, i32_w]
       rfl
      refine pure_ (i := 48) (N := some 105) (v := undef) (a' := ?_) (L_ 49 51) rfl rfl (any_of HT_.out (by kernel_rfl)) (fun _ _ _ h => h) (Or.inr ⟨by rfl, rfl⟩) ?_ ?_
      rotate_left
      ·
       simp only [Act.put, List.setIfInBounds_toArray, List.set_cons_zero, List.set_cons_succ, i64_w, i32_w]
       rfl
      refine pure_ (i := 49) (N := some 106) (v := undef) (a' := ?_) (L_ 50 51) rfl rfl (any_of HT_.out (by kernel_rfl)) (fun _ _ _ h => h) (Or.inr ⟨by rfl, rfl⟩) ?_ ?_
      rotate_left
      ·
       simp only [Act.put, List.setIfInBounds_toArray, List.set_cons_zero, List.set_cons_succ, i64_w, i32_w]
       rfl
      refine ps 50 107 (L_ 51 51) HT_.out ?_
      refine done_ (done_of HT_.out (by kernel_rfl)) ?_
      try go_wp2
      go_ret
      exact ⟨mE, mG⟩
     rw [if_neg c71] at H
     have c71b0 : (((rdOf ByteArray.empty t575 x7_2).toList == ([111, 112, 101, 110] : List UInt8)) != t594) = false := by simpa using c71
     (try (have c71b1 : decide (((rdOf ByteArray.empty t575 x7_2).toList == ([111, 112, 101, 110] : List UInt8)) = t594) = true := by simpa using c71))
     (try (have c71b2 : (((rdOf ByteArray.empty t575 x7_2).toList == ([111, 112, 101, 110] : List UInt8)) == t594) = true := by simpa using c71))
     clear c71
     replace H := Option.bind_eq_some_iff.mp H
     obtain ⟨t595, A800, H⟩ := H
     have A80 := Aside0.mk A800
     clear A800
     by_cases c81 : ((decide (t585 > 0)) != t595) = true
     ·
      rw [if_pos c81] at H
      have c81b0 : ((decide (t585 > 0)) != t595) = true := c81
      (try (have c81b1 : decide ((decide (t585 > 0)) = t595) = false := by simpa using c81))
      (try (have c81b2 : ((decide (t585 > 0)) == t595) = false := by simpa using c81))
      (try (have c81b3 : ¬ ((decide (t585 > 0)) = t595) := by simpa using c81))
      clear c81
      obtain rfl := Option.some.inj H
      have hcz82_0 : wr.cell? ⟨gb571, 0, none⟩ = some (.int .i64 t567) := (blk_cell BK571.out 0).trans rfl
      have hcz82_1 : wr.cell? ⟨gb571, 1, none⟩ = some (.slice Ao26 t568.length co26) := (blk_cell BK571.out 1).trans rfl
      have hfz82_0 := blk_frozen BK571.out 0
      have hfz82_1 := blk_frozen BK571.out 1
      try go_wp2_with (first | ((with_reducible refine gate_callee (f := 41) rfl ?_); refine goesL_ (some 56) rfl rfl Try.func41 (by kernel_rfl) rfl #[.agg #[.int .i64 t567, .slice Ao26 t568.length co26], .int .i64 x7_2] rfl mA ?_; (with_reducible refine (impl_RoundOf.calls k2 t567 _ _ t568 x7_2 t585 _ ?side1 ?side2 A50.out).mono ?_); (case side1 => exact mC (Kd.S_reads' HO_572001.out).2.2); (case side2 => exact (Kd.S_reads' HO_572001.out).2.1); rintro e w83 ⟨rfl, hb⟩; refine ⟨_, rfl, ?_⟩; have n0_ := Aside0.mk (Kd.R_below (mR HO_4.out) hb); have n1_ := Aside0.mk (Kd.R_below (mR HO_5.out) hb); have n2_ := Aside0.mk (Kd.R_below (mR HO_6.out) hb); have n3_ := Aside0.mk (Kd.S_below (mS HO_572001.out) hb); have n4_ := Aside0.mk (blk_below (g := gb571) (o := .cells #[.int .i64 t567, .slice Ao26 t568.length co26] 28 (0, 0)) ((mK (BK571.out))) hb); have n5_ := Aside0.mk (below_step mG hb); clear HO_4 HO_5 HO_6 HO_572001 BK571 HB; have HO_4 := n0_; have HO_5 := n1_; have HO_6 := n2_; have HO_572001 := n3_; have BK571 := n4_; have HB := n5_; clear n0_ n1_ n2_ n3_ n4_ n5_; (try clear hb)))
      have n0_ := Aside0.mk (Kd.R_drew HO_4.out)
      have n1_ := Aside0.mk (Kd.R_drew HO_5.out)
      have n2_ := Aside0.mk (Kd.R_drew HO_6.out)
      have n3_ := Aside0.mk (Kd.S_drew HO_572001.out)
      have n4_ := Aside0.mk (blk_drew BK571.out)
      have n5_ := Aside0.mk (below_drew1 HB.out)
      clear HO_4 HO_5 HO_6 HO_572001 BK571 HB; have HO_4 := n0_; have HO_5 := n1_; have HO_6 := n2_; have HO_572001 := n3_; have BK571 := n4_; have HB := n5_; clear n0_ n1_ n2_ n3_ n4_ n5_
      obtain ⟨Ao85, co85, eo85⟩ := Kd.R_slice HO_5.out
      (first | subst eo85 | (injection eo85 with f1_ f2_ f3_; have f4_ := f1_.symm; have f5_ := f3_.symm; clear f1_ f2_ f3_; subst f4_; subst f5_))
      have p586 : 0 ≤ (x7_2 : Int) := mD
      have q586 : x7_2 < (t575.length : Int) := mD
      obtain ⟨ad586, e586, hx586_0⟩ := Kd.at_string (Kd.R_reads' HO_5.out).2.2 x7_2 p586 q586
      cases e586
      replace p586 := eq_true p586
      replace q586 := eq_true q586
      obtain ⟨Ao86, co86, eo86⟩ := Kd.R_slice HO_4.out
      (first | subst eo86 | (injection eo86 with f1_ f2_ f3_; have f4_ := f1_.symm; have f5_ := f3_.symm; clear f1_ f2_ f3_; subst f4_; subst f5_))
      have p588 : 0 ≤ (x7_2 : Int) := mD
      have q588 : x7_2 < (t575.length : Int) := mD
      obtain ⟨ad588, e588, hx588_0⟩ := Kd.at_string (Kd.R_reads' HO_5.out).2.2 x7_2 p588 q588
      obtain rfl : ad586 = ad588 := (by injection e588)
      replace p588 := eq_true p588
      replace q588 := eq_true q588
      have p593 : 0 ≤ (x7_2 : Int) := mD
      have q593 : x7_2 < (t575.length : Int) := mD
      obtain ⟨ad593, e593, hx593_0⟩ := Kd.at_string (Kd.R_reads' HO_5.out).2.2 x7_2 p593 q593
      obtain rfl : ad586 = ad593 := (by injection e593)
      replace p593 := eq_true p593
      replace q593 := eq_true q593
      refine start_ (n := 51) (S := fun w' => w'.cell? ⟨gb571, 0, none⟩ = some (.int .i64 t567) ∧ w'.cell? ⟨gb571, 1, none⟩ = some (.slice Ao26 t568.length co26) ∧ w'.cell? (ad586.add (x7_2).toNat) = some (.string (rdOf ByteArray.empty t575 x7_2)) ∧ w'.cell? (ad586.add (x7_2).toNat) = some (.string (rdOf ByteArray.empty t575 x7_2)) ∧ w'.cell? (ad586.add (x7_2).toNat) = some (.string (rdOf ByteArray.empty t575 x7_2))) (ds := []) (L_ 0 51) (by kernel_rfl) rfl rfl ⟨(blk_cell BK571.out 0).trans rfl, (blk_cell BK571.out 1).trans rfl, hx586_0, hx588_0, hx593_0⟩ (fun hHeld => ?_); refine with_tabW laws_FnGrounded.tab17 laws_FnGrounded.bits17 (fun HT_ HW_ => ?_)
      generalize w83.drew = w84 at HO_4 HO_5 HO_6 HO_572001 BK571 HB hx586_0 hx588_0 hx593_0 hHeld ⊢
      refine ps 0 57 (L_ 1 51) HT_.out ?_
      refine ps 1 58 (L_ 2 51) HT_.out ?_
      refine ps 2 59 (L_ 3 51) HT_.out ?_
      refine ps 5 62 #[true, true, true, false, false, true, false, false, false, false, false, false, false, false, false, false, false, false, false, false, false, false, false, false, false, false, false, false, false, false, false, false, false, false, false, false, false, false, false, false, false, false, false, false, false, false, false, false, false, false, false] HT_.out ?_
      refine ps 6 63 #[true, true, true, false, false, true, true, false, false, false, false, false, false, false, false, false, false, false, false, false, false, false, false, false, false, false, false, false, false, false, false, false, false, false, false, false, false, false, false, false, false, false, false, false, false, false, false, false, false, false, false] HT_.out ?_
      refine take_ (i := 3) (N := some 60) (v := ?_) (a' := ?_) #[true, true, true, true, false, true, true, false, false, false, false, false, false, false, false, false, false, false, false, false, false, false, false, false, false, false, false, false, false, false, false, false, false, false, false, false, false, false, false, false, false, false, false, false, false, false, false, false, false, false, false] rfl rfl (take_ofW HT_.out HW_.out (by kernel_rfl)) (fun _ _ _ h => h) (Or.inl ⟨by rfl, ?_⟩) hHeld ?_ ?_
      rotate_left
      ·
       rintro w' ⟨s0, s1, s2, s3, s4⟩
       go_simp
       with_reducible rfl
      rotate_left
      ·
       simp only [Act.put, List.setIfInBounds_toArray, List.set_cons_zero, List.set_cons_succ, i64_w, i32_w]
       rfl
      refine ps 4 61 (L_ 7 51) HT_.out ?_
      refine one_ (i := 7) (N := some 64) (L_ 8 51) rfl rfl (one_of HT_.out (by kernel_rfl)) (by decide) (fun K hK => ?_)
      refine goes_ Try.func51 (by kernel_rfl) rfl #[.slice Ao86 t572.length co86, .int .i64 x7_2] (by rfl) rfl rfl mA ?_
      with_reducible refine (laws_contains.calls k2 _ _ t572 x7_2 t587 _ ?side1 ?side2 A53.out).mono ?_
      (case side1 => exact mC (Kd.R_reads' HO_4.out).2.2)
      (case side2 => exact (Kd.R_reads' HO_4.out).2.1)
      rintro e w' ⟨rfl, ⟨nd, rfl⟩⟩
      refine ⟨_, rfl, ?_⟩
      refine hK.out _ _ ⟨(blk_cell BK571.out 0).trans rfl, (blk_cell BK571.out 1).trans rfl, hHeld.2.2.1, hHeld.2.2.2.1, hHeld.2.2.2.2⟩ (fun hHeld => ?_)
      clear hK K
      refine norm_ (a' := ?_) ?_ ?_
      rotate_left
      ·
       show Act.put _ (some 64) _ = _
       simp only [Act.put, List.setIfInBounds_toArray, List.set_cons_zero, List.set_cons_succ, i64_w, i32_w]
       rfl
      refine ps 8 65 (L_ 9 51) HT_.out ?_
      refine ps 9 66 (L_ 10 51) HT_.out ?_
      refine ps 10 67 (L_ 11 51) HT_.out ?_
      refine ps 11 68 (L_ 12 51) HT_.out ?_
      refine ps 12 69 (L_ 13 51) HT_.out ?_
      refine ps 16 73 #[true, true, true, true, true, true, true, true, true, true, true, true, true, false, false, false, true, false, false, false, false, false, false, false, false, false, false, false, false, false, false, false, false, false, false, false, false, false, false, false, false, false, false, false, false, false, false, false, false, false, false] HT_.out ?_
      refine ps 18 75 #[true, true, true, true, true, true, true, true, true, true, true, true, true, false, false, false, true, false, true, false, false, false, false, false, false, false, false, false, false, false, false, false, false, false, false, false, false, false, false, false, false, false, false, false, false, false, false, false, false, false, false] HT_.out ?_
      refine take_ (i := 13) (N := some 70) (v := ?_) (a' := ?_) #[true, true, true, true, true, true, true, true, true, true, true, true, true, true, false, false, true, false, true, false, false, false, false, false, false, false, false, false, false, false, false, false, false, false, false, false, false, false, false, false, false, false, false, false, false, false, false, false, false, false, false] rfl rfl (take_ofW HT_.out HW_.out (by kernel_rfl)) (fun _ _ _ h => h) (Or.inl ⟨by rfl, ?_⟩) hHeld ?_ ?_
      rotate_left
      ·
       rintro w' ⟨s0, s1, s2, s3, s4⟩
       go_simp
       with_reducible rfl
      rotate_left
      ·
       simp only [Act.put, List.setIfInBounds_toArray, List.set_cons_zero, List.set_cons_succ, i64_w, i32_w]
       rfl
      refine ps 14 71 #[true, true, true, true, true, true, true, true, true, true, true, true, true, true, true, false, true, false, true, false, false, false, false, false, false, false, false, false, false, false, false, false, false, false, false, false, false, false, false, false, false, false, false, false, false, false, false, false, false, false, false] HT_.out ?_
      refine take_ (i := 15) (N := some 72) (v := ?_) (a' := ?_) #[true, true, true, true, true, true, true, true, true, true, true, true, true, true, true, true, true, false, true, false, false, false, false, false, false, false, false, false, false, false, false, false, false, false, false, false, false, false, false, false, false, false, false, false, false, false, false, false, false, false, false] rfl rfl (take_ofW HT_.out HW_.out (by kernel_rfl)) (fun _ _ _ h => h) (Or.inl ⟨by rfl, ?_⟩) hHeld ?_ ?_
      rotate_left
      ·
       rintro w' ⟨s0, s1, s2, s3, s4⟩
       go_simp
       with_reducible rfl
      rotate_left
      ·
       simp only [Act.put, List.setIfInBounds_toArray, List.set_cons_zero, List.set_cons_succ, i64_w, i32_w]
       rfl
      refine one_ (i := 17) (N := some 74) (L_ 19 51) rfl rfl (one_of HT_.out (by kernel_rfl)) (by decide) (fun K hK => ?_)
      refine goes_ Try.func24 (by kernel_rfl) rfl #[.agg #[.int .i64 t567, .slice Ao26 t568.length co26], .slice Ao86 t572.length co86] (by rfl) rfl rfl mA ?_
      with_reducible refine (impl_HitBy.calls k2 t567 _ _ t568 _ _ t572 t589 _ ?side1 ?side2 ?side3 ?side4 A60.out).mono ?_
      (case side1 => exact mC (Kd.S_reads' HO_572001.out).2.2)
      (case side2 => exact (Kd.S_reads' HO_572001.out).2.1)
      (case side3 => exact mC (Kd.R_reads' HO_4.out).2.2)
      (case side4 => exact (Kd.R_reads' HO_4.out).2.1)
      rintro e w87 ⟨v590, rfl, ho0, hb⟩
      have HS2_ := (hb.cell (World.block_lt_of_cell? _ _ (hHeld.2.2.1))).trans (hHeld.2.2.1)
      have HS3_ := (hb.cell (World.block_lt_of_cell? _ _ (hHeld.2.2.2.1))).trans (hHeld.2.2.2.1)
      have HS4_ := (hb.cell (World.block_lt_of_cell? _ _ (hHeld.2.2.2.2))).trans (hHeld.2.2.2.2)
      refine ⟨_, rfl, ?_⟩
      have n0_ := Aside0.mk (Kd.R_elder' (mR HO_4.out) (Kd.R_base ho0) hb)
      have n1_ := Aside0.mk (Kd.R_below (mR HO_5.out) hb)
      have n2_ := Aside0.mk (Kd.R_elder' (mR HO_6.out) (Kd.R_base ho0) hb)
      have n3_ := Aside0.mk (Kd.S_elder' (mS HO_572001.out) (Kd.R_base ho0) hb)
      have n4_ := Aside0.mk (Kd.R_lower (Kd.R_new' (Kd.R_new' ho0 (Kd.R_lt (mR HO_4.out))) (Kd.R_lt (mR HO_6.out))) (below_size mG))
      have n5_ := Aside0.mk (blk_below (g := gb571) (o := .cells #[.int .i64 t567, .slice Ao26 t568.length co26] 28 (0, 0)) ((mK (BK571.out))) hb)
      have n6_ := Aside0.mk (below_step mG hb)
      clear HO_4 HO_5 HO_6 HO_572001 BK571 HB; have HO_4 := n0_; have HO_5 := n1_; have HO_6 := n2_; have HO_572001 := n3_; have HO591 := n4_; have BK571 := n5_; have HB := n6_; clear n0_ n1_ n2_ n3_ n4_ n5_ n6_; (try clear hb); (try clear ho0)
      obtain ⟨Ao88, co88, eo88⟩ := Kd.R_slice HO591.out
      (first | subst eo88 | (injection eo88 with f1_ f2_ f3_; have f4_ := f1_.symm; have f5_ := f3_.symm; clear f1_ f2_ f3_; subst f4_; subst f5_))
      refine hK.out _ _ ⟨(blk_cell BK571.out 0).trans rfl, (blk_cell BK571.out 1).trans rfl, HS2_, HS3_, HS4_⟩ (fun hHeld => ?_)
      clear hK K
      refine norm_ (a' := ?_) ?_ ?_
      rotate_left
      ·
       show Act.put _ (some 74) _ = _
       simp only [Act.put, List.setIfInBounds_toArray, List.set_cons_zero, List.set_cons_succ, i64_w, i32_w]
       rfl
      refine one_ (i := 19) (N := some 76) (L_ 20 51) rfl rfl (one_of HT_.out (by kernel_rfl)) (by decide) (fun K hK => ?_)
      refine goes_ Try.func51 (by kernel_rfl) rfl #[.slice Ao88 t589.length co88, .int .i64 x7_2] (by rfl) rfl rfl mA ?_
      with_reducible refine (laws_contains.calls k2 _ _ t589 x7_2 t592 _ ?side1 ?side2 A61.out).mono ?_
      (case side1 => exact mC (Kd.R_reads' HO591.out).2.2)
      (case side2 => exact (Kd.R_reads' HO591.out).2.1)
      rintro e w' ⟨rfl, ⟨nd, rfl⟩⟩
      refine ⟨_, rfl, ?_⟩
      obtain ⟨Ao89, co89, eo89⟩ := Kd.R_slice HO_6.out
      (first | subst eo89 | (injection eo89 with f1_ f2_ f3_; have f4_ := f1_.symm; have f5_ := f3_.symm; clear f1_ f2_ f3_; subst f4_; subst f5_))
      refine hK.out _ _ ⟨(blk_cell BK571.out 0).trans rfl, (blk_cell BK571.out 1).trans rfl, hHeld.2.2.1, hHeld.2.2.2.1, hHeld.2.2.2.2⟩ (fun hHeld => ?_)
      clear hK K
      refine norm_ (a' := ?_) ?_ ?_
      rotate_left
      ·
       show Act.put _ (some 76) _ = _
       simp only [Act.put, List.setIfInBounds_toArray, List.set_cons_zero, List.set_cons_succ, i64_w, i32_w]
       rfl
      refine ps 20 77 (L_ 21 51) HT_.out ?_
      refine ps 21 78 (L_ 22 51) HT_.out ?_
      refine ps 22 79 (L_ 23 51) HT_.out ?_
      refine ps 23 80 (L_ 24 51) HT_.out ?_
      refine ps 24 81 (L_ 25 51) HT_.out ?_
      refine ps 25 82 (L_ 26 51) HT_.out ?_
      refine ps 28 85 #[true, true, true, true, true, true, true, true, true, true, true, true, true, true, true, true, true, true, true, true, true, true, true, true, true, true, false, false, true, false, false, false, false, false, false, false, false, false, false, false, false, false, false, false, false, false, false, false, false, false, false] HT_.out ?_
      refine ps 29 86 #[true, true, true, true, true, true, true, true, true, true, true, true, true, true, true, true, true, true, true, true, true, true, true, true, true, true, false, false, true, true, false, false, false, false, false, false, false, false, false, false, false, false, false, false, false, false, false, false, false, false, false] HT_.out ?_
      refine take_ (i := 26) (N := some 83) (v := ?_) (a' := ?_) #[true, true, true, true, true, true, true, true, true, true, true, true, true, true, true, true, true, true, true, true, true, true, true, true, true, true, true, false, true, true, false, false, false, false, false, false, false, false, false, false, false, false, false, false, false, false, false, false, false, false, false] rfl rfl (take_ofW HT_.out HW_.out (by kernel_rfl)) (fun _ _ _ h => h) (Or.inl ⟨by rfl, ?_⟩) hHeld ?_ ?_
      rotate_left
      ·
       rintro w' ⟨s0, s1, s2, s3, s4⟩
       go_simp
       with_reducible rfl
      rotate_left
      ·
       simp only [Act.put, List.setIfInBounds_toArray, List.set_cons_zero, List.set_cons_succ, i64_w, i32_w]
       rfl
      refine ps 27 84 (L_ 30 51) HT_.out ?_
      refine one_ (i := 30) (N := some 87) (L_ 31 51) rfl rfl (one_of HT_.out (by kernel_rfl)) (by decide) (fun K hK => ?_)
      refine goes_ Try.func51 (by kernel_rfl) rfl #[.slice Ao89 t582.length co89, .int .i64 x7_2] (by rfl) rfl rfl mA ?_
      with_reducible refine (laws_contains.calls k2 _ _ t582 x7_2 t594 _ ?side1 ?side2 A70.out).mono ?_
      (case side1 => exact mC (Kd.R_reads' HO_6.out).2.2)
      (case side2 => exact (Kd.R_reads' HO_6.out).2.1)
      rintro e w' ⟨rfl, ⟨nd, rfl⟩⟩
      refine ⟨_, rfl, ?_⟩
      refine hK.out _ _ ⟨(blk_cell BK571.out 0).trans rfl, (blk_cell BK571.out 1).trans rfl, hHeld.2.2.1, hHeld.2.2.2.1, hHeld.2.2.2.2⟩ (fun hHeld => ?_)
      clear hK K
      refine norm_ (a' := ?_) ?_ ?_
      rotate_left
      ·
       show Act.put _ (some 87) _ = _
       simp only [Act.put, List.setIfInBounds_toArray, List.set_cons_zero, List.set_cons_succ, i64_w, i32_w]
       rfl
      refine ps 31 88 (L_ 32 51) HT_.out ?_
      refine ps 32 89 (L_ 33 51) HT_.out ?_
      refine ps 33 90 (L_ 34 51) HT_.out ?_
      refine ps 34 91 (L_ 35 51) HT_.out ?_
      refine ps 35 92 (L_ 36 51) HT_.out ?_
      refine ps 36 93 (L_ 37 51) HT_.out ?_
      refine ps 37 94 (L_ 38 51) HT_.out ?_
      refine one_ (i := 38) (N := some 95) (L_ 39 51) rfl rfl (one_of HT_.out (by kernel_rfl)) (by decide) (fun K hK => ?_)
      refine goes_ Try.func51 (by kernel_rfl) rfl #[.slice Ao86 t572.length co86, .int .i64 x7_2] (by rfl) rfl rfl mA ?_
      with_reducible refine (laws_contains.calls k2 _ _ t572 x7_2 t595 _ ?side1 ?side2 A80.out).mono ?_
      (case side1 => exact mC (Kd.R_reads' HO_4.out).2.2)
      (case side2 => exact (Kd.R_reads' HO_4.out).2.1)
      rintro e w' ⟨rfl, ⟨nd, rfl⟩⟩
      refine ⟨_, rfl, ?_⟩
      refine hK.out _ _ ⟨(blk_cell BK571.out 0).trans rfl, (blk_cell BK571.out 1).trans rfl, hHeld.2.2.1, hHeld.2.2.2.1, hHeld.2.2.2.2⟩ (fun hHeld => ?_)
      clear hK K
      refine norm_ (a' := ?_) ?_ ?_
      rotate_left
      ·
       show Act.put _ (some 95) _ = _
       simp only [Act.put, List.setIfInBounds_toArray, List.set_cons_zero, List.set_cons_succ, i64_w, i32_w]
       rfl
      refine ps 39 96 (L_ 40 51) HT_.out ?_
      refine ps 40 97 (L_ 41 51) HT_.out ?_
      refine ps 41 98 (L_ 42 51) HT_.out ?_
      refine pure_ (i := 42) (N := some 99) (v := undef) (a' := ?_) (L_ 43 51) rfl rfl (any_of HT_.out (by kernel_rfl)) (fun _ _ _ h => h) (Or.inr ⟨by rfl, rfl⟩) ?_ ?_
      rotate_left
      ·
       simp only [Act.put, List.setIfInBounds_toArray, List.set_cons_zero, List.set_cons_succ, i64_w, i32_w]
       rfl
      refine pure_ (i := 43) (N := some 100) (v := undef) (a' := ?_) (L_ 44 51) rfl rfl (any_of HT_.out (by kernel_rfl)) (fun _ _ _ h => h) (Or.inr ⟨by rfl, rfl⟩) ?_ ?_
      rotate_left
      ·
       simp only [Act.put, List.setIfInBounds_toArray, List.set_cons_zero, List.set_cons_succ, i64_w, i32_w]
       rfl
      refine pure_ (i := 44) (N := some 101) (v := undef) (a' := ?_) (L_ 45 51) rfl rfl (any_of HT_.out (by kernel_rfl)) (fun _ _ _ h => h) (Or.inr ⟨by rfl, rfl⟩) ?_ ?_
      rotate_left
      ·
       simp only [Act.put, List.setIfInBounds_toArray, List.set_cons_zero, List.set_cons_succ, i64_w, i32_w]
       rfl
      refine pure_ (i := 45) (N := some 102) (v := undef) (a' := ?_) (L_ 46 51) rfl rfl (any_of HT_.out (by kernel_rfl)) (fun _ _ _ h => h) (Or.inr ⟨by rfl, rfl⟩) ?_ ?_
      rotate_left
      ·
       simp only [Act.put, List.setIfInBounds_toArray, List.set_cons_zero, List.set_cons_succ, i64_w, i32_w]
       rfl
      refine pure_ (i := 46) (N := some 103) (v := undef) (a' := ?_) (L_ 47 51) rfl rfl (any_of HT_.out (by kernel_rfl)) (fun _ _ _ h => h) (Or.inr ⟨by rfl, rfl⟩) ?_ ?_
      rotate_left
      ·
       simp only [Act.put, List.setIfInBounds_toArray, List.set_cons_zero, List.set_cons_succ, i64_w, i32_w]
       rfl
      refine pure_ (i := 47) (N := some 104) (v := undef) (a' := ?_) (L_ 48 51) rfl rfl (any_of HT_.out (by kernel_rfl)) (fun _ _ _ h => h) (Or.inr ⟨by rfl, rfl⟩) ?_ ?_
      rotate_left
      ·
       simp only [Act.put, List.setIfInBounds_toArray, List.set_cons_zero, List.set_cons_succ, i64_w, i32_w]
       rfl
      refine pure_ (i := 48) (N := some 105) (v := undef) (a' := ?_) (L_ 49 51) rfl rfl (any_of HT_.out (by kernel_rfl)) (fun _ _ _ h => h) (Or.inr ⟨by rfl, rfl⟩) ?_ ?_
      rotate_left
      ·
       simp only [Act.put, List.setIfInBounds_toArray, List.set_cons_zero, List.set_cons_succ, i64_w, i32_w]
       rfl
      refine pure_ (i := 49) (N := some 106) (v := undef) (a' := ?_) (L_ 50 51) rfl rfl (any_of HT_.out (by kernel_rfl)) (fun _ _ _ h => h) (Or.inr ⟨by rfl, rfl⟩) ?_ ?_
      rotate_left
      ·
       simp only [Act.put, List.setIfInBounds_toArray, List.set_cons_zero, List.set_cons_succ, i64_w, i32_w]
       rfl
      refine ps 50 107 (L_ 51 51) HT_.out ?_
      refine done_ (done_of HT_.out (by kernel_rfl)) ?_
      try go_wp2
      go_ret
      exact ⟨mE, mG⟩
     rw [if_neg c81] at H
     have c81b0 : ((decide (t585 > 0)) != t595) = false := by simpa using c81
     (try (have c81b1 : decide ((decide (t585 > 0)) = t595) = true := by simpa using c81))
     (try (have c81b2 : ((decide (t585 > 0)) == t595) = true := by simpa using c81))
     clear c81
     replace H := Option.bind_eq_some_iff.mp H
     obtain ⟨t596, A900, H⟩ := H
     have A90 := Aside0.mk A900
     clear A900
     by_cases c91 : ((t585 == 1) != ((t596.length : Int) == 0)) = true
     ·
      rw [if_pos c91] at H
      have c91b0 : ((t585 == 1) != ((t596.length : Int) == 0)) = true := c91
      (try (have c91b1 : decide ((t585 == 1) = ((t596.length : Int) == 0)) = false := by simpa using c91))
      (try (have c91b2 : ((t585 == 1) == ((t596.length : Int) == 0)) = false := by simpa using c91))
      (try (have c91b3 : ¬ ((t585 == 1) = ((t596.length : Int) == 0)) := by simpa using c91))
      clear c91
      obtain rfl := Option.some.inj H
      have hcz92_0 : wr.cell? ⟨gb571, 0, none⟩ = some (.int .i64 t567) := (blk_cell BK571.out 0).trans rfl
      have hcz92_1 : wr.cell? ⟨gb571, 1, none⟩ = some (.slice Ao26 t568.length co26) := (blk_cell BK571.out 1).trans rfl
      have hfz92_0 := blk_frozen BK571.out 0
      have hfz92_1 := blk_frozen BK571.out 1
      try go_wp2_with (first | ((with_reducible refine gate_callee (f := 41) rfl ?_); refine goesL_ (some 56) rfl rfl Try.func41 (by kernel_rfl) rfl #[.agg #[.int .i64 t567, .slice Ao26 t568.length co26], .int .i64 x7_2] rfl mA ?_; (with_reducible refine (impl_RoundOf.calls k2 t567 _ _ t568 x7_2 t585 _ ?side1 ?side2 A50.out).mono ?_); (case side1 => exact mC (Kd.S_reads' HO_572001.out).2.2); (case side2 => exact (Kd.S_reads' HO_572001.out).2.1); rintro e w93 ⟨rfl, hb⟩; refine ⟨_, rfl, ?_⟩; have n0_ := Aside0.mk (Kd.R_below (mR HO_4.out) hb); have n1_ := Aside0.mk (Kd.R_below (mR HO_5.out) hb); have n2_ := Aside0.mk (Kd.R_below (mR HO_6.out) hb); have n3_ := Aside0.mk (Kd.S_below (mS HO_572001.out) hb); have n4_ := Aside0.mk (blk_below (g := gb571) (o := .cells #[.int .i64 t567, .slice Ao26 t568.length co26] 28 (0, 0)) ((mK (BK571.out))) hb); have n5_ := Aside0.mk (below_step mG hb); clear HO_4 HO_5 HO_6 HO_572001 BK571 HB; have HO_4 := n0_; have HO_5 := n1_; have HO_6 := n2_; have HO_572001 := n3_; have BK571 := n4_; have HB := n5_; clear n0_ n1_ n2_ n3_ n4_ n5_; (try clear hb)))
      have n0_ := Aside0.mk (Kd.R_drew HO_4.out)
      have n1_ := Aside0.mk (Kd.R_drew HO_5.out)
      have n2_ := Aside0.mk (Kd.R_drew HO_6.out)
      have n3_ := Aside0.mk (Kd.S_drew HO_572001.out)
      have n4_ := Aside0.mk (blk_drew BK571.out)
      have n5_ := Aside0.mk (below_drew1 HB.out)
      clear HO_4 HO_5 HO_6 HO_572001 BK571 HB; have HO_4 := n0_; have HO_5 := n1_; have HO_6 := n2_; have HO_572001 := n3_; have BK571 := n4_; have HB := n5_; clear n0_ n1_ n2_ n3_ n4_ n5_
      obtain ⟨Ao95, co95, eo95⟩ := Kd.R_slice HO_5.out
      (first | subst eo95 | (injection eo95 with f1_ f2_ f3_; have f4_ := f1_.symm; have f5_ := f3_.symm; clear f1_ f2_ f3_; subst f4_; subst f5_))
      have p586 : 0 ≤ (x7_2 : Int) := mD
      have q586 : x7_2 < (t575.length : Int) := mD
      obtain ⟨ad586, e586, hx586_0⟩ := Kd.at_string (Kd.R_reads' HO_5.out).2.2 x7_2 p586 q586
      cases e586
      replace p586 := eq_true p586
      replace q586 := eq_true q586
      obtain ⟨Ao96, co96, eo96⟩ := Kd.R_slice HO_4.out
      (first | subst eo96 | (injection eo96 with f1_ f2_ f3_; have f4_ := f1_.symm; have f5_ := f3_.symm; clear f1_ f2_ f3_; subst f4_; subst f5_))
      have p588 : 0 ≤ (x7_2 : Int) := mD
      have q588 : x7_2 < (t575.length : Int) := mD
      obtain ⟨ad588, e588, hx588_0⟩ := Kd.at_string (Kd.R_reads' HO_5.out).2.2 x7_2 p588 q588
      obtain rfl : ad586 = ad588 := (by injection e588)
      replace p588 := eq_true p588
      replace q588 := eq_true q588
      have p593 : 0 ≤ (x7_2 : Int) := mD
      have q593 : x7_2 < (t575.length : Int) := mD
      obtain ⟨ad593, e593, hx593_0⟩ := Kd.at_string (Kd.R_reads' HO_5.out).2.2 x7_2 p593 q593
      obtain rfl : ad586 = ad593 := (by injection e593)
      replace p593 := eq_true p593
      replace q593 := eq_true q593
      refine start_ (n := 51) (S := fun w' => w'.cell? ⟨gb571, 0, none⟩ = some (.int .i64 t567) ∧ w'.cell? ⟨gb571, 1, none⟩ = some (.slice Ao26 t568.length co26) ∧ w'.cell? (ad586.add (x7_2).toNat) = some (.string (rdOf ByteArray.empty t575 x7_2)) ∧ w'.cell? (ad586.add (x7_2).toNat) = some (.string (rdOf ByteArray.empty t575 x7_2)) ∧ w'.cell? (ad586.add (x7_2).toNat) = some (.string (rdOf ByteArray.empty t575 x7_2))) (ds := []) (L_ 0 51) (by kernel_rfl) rfl rfl ⟨(blk_cell BK571.out 0).trans rfl, (blk_cell BK571.out 1).trans rfl, hx586_0, hx588_0, hx593_0⟩ (fun hHeld => ?_); refine with_tabW laws_FnGrounded.tab17 laws_FnGrounded.bits17 (fun HT_ HW_ => ?_)
      generalize w93.drew = w94 at HO_4 HO_5 HO_6 HO_572001 BK571 HB hx586_0 hx588_0 hx593_0 hHeld ⊢
      refine ps 0 57 (L_ 1 51) HT_.out ?_
      refine ps 1 58 (L_ 2 51) HT_.out ?_
      refine ps 2 59 (L_ 3 51) HT_.out ?_
      refine ps 5 62 #[true, true, true, false, false, true, false, false, false, false, false, false, false, false, false, false, false, false, false, false, false, false, false, false, false, false, false, false, false, false, false, false, false, false, false, false, false, false, false, false, false, false, false, false, false, false, false, false, false, false, false] HT_.out ?_
      refine ps 6 63 #[true, true, true, false, false, true, true, false, false, false, false, false, false, false, false, false, false, false, false, false, false, false, false, false, false, false, false, false, false, false, false, false, false, false, false, false, false, false, false, false, false, false, false, false, false, false, false, false, false, false, false] HT_.out ?_
      refine take_ (i := 3) (N := some 60) (v := ?_) (a' := ?_) #[true, true, true, true, false, true, true, false, false, false, false, false, false, false, false, false, false, false, false, false, false, false, false, false, false, false, false, false, false, false, false, false, false, false, false, false, false, false, false, false, false, false, false, false, false, false, false, false, false, false, false] rfl rfl (take_ofW HT_.out HW_.out (by kernel_rfl)) (fun _ _ _ h => h) (Or.inl ⟨by rfl, ?_⟩) hHeld ?_ ?_
      rotate_left
      ·
       rintro w' ⟨s0, s1, s2, s3, s4⟩
       go_simp
       with_reducible rfl
      rotate_left
      ·
       simp only [Act.put, List.setIfInBounds_toArray, List.set_cons_zero, List.set_cons_succ, i64_w, i32_w]
       rfl
      refine ps 4 61 (L_ 7 51) HT_.out ?_
      refine one_ (i := 7) (N := some 64) (L_ 8 51) rfl rfl (one_of HT_.out (by kernel_rfl)) (by decide) (fun K hK => ?_)
      refine goes_ Try.func51 (by kernel_rfl) rfl #[.slice Ao96 t572.length co96, .int .i64 x7_2] (by rfl) rfl rfl mA ?_
      with_reducible refine (laws_contains.calls k2 _ _ t572 x7_2 t587 _ ?side1 ?side2 A53.out).mono ?_
      (case side1 => exact mC (Kd.R_reads' HO_4.out).2.2)
      (case side2 => exact (Kd.R_reads' HO_4.out).2.1)
      rintro e w' ⟨rfl, ⟨nd, rfl⟩⟩
      refine ⟨_, rfl, ?_⟩
      refine hK.out _ _ ⟨(blk_cell BK571.out 0).trans rfl, (blk_cell BK571.out 1).trans rfl, hHeld.2.2.1, hHeld.2.2.2.1, hHeld.2.2.2.2⟩ (fun hHeld => ?_)
      clear hK K
      refine norm_ (a' := ?_) ?_ ?_
      rotate_left
      ·
       show Act.put _ (some 64) _ = _
       simp only [Act.put, List.setIfInBounds_toArray, List.set_cons_zero, List.set_cons_succ, i64_w, i32_w]
       rfl
      refine ps 8 65 (L_ 9 51) HT_.out ?_
      refine ps 9 66 (L_ 10 51) HT_.out ?_
      refine ps 10 67 (L_ 11 51) HT_.out ?_
      refine ps 11 68 (L_ 12 51) HT_.out ?_
      refine ps 12 69 (L_ 13 51) HT_.out ?_
      refine ps 16 73 #[true, true, true, true, true, true, true, true, true, true, true, true, true, false, false, false, true, false, false, false, false, false, false, false, false, false, false, false, false, false, false, false, false, false, false, false, false, false, false, false, false, false, false, false, false, false, false, false, false, false, false] HT_.out ?_
      refine ps 18 75 #[true, true, true, true, true, true, true, true, true, true, true, true, true, false, false, false, true, false, true, false, false, false, false, false, false, false, false, false, false, false, false, false, false, false, false, false, false, false, false, false, false, false, false, false, false, false, false, false, false, false, false] HT_.out ?_
      refine take_ (i := 13) (N := some 70) (v := ?_) (a' := ?_) #[true, true, true, true, true, true, true, true, true, true, true, true, true, true, false, false, true, false, true, false, false, false, false, false, false, false, false, false, false, false, false, false, false, false, false, false, false, false, false, false, false, false, false, false, false, false, false, false, false, false, false] rfl rfl (take_ofW HT_.out HW_.out (by kernel_rfl)) (fun _ _ _ h => h) (Or.inl ⟨by rfl, ?_⟩) hHeld ?_ ?_
      rotate_left
      ·
       rintro w' ⟨s0, s1, s2, s3, s4⟩
       go_simp
       with_reducible rfl
      rotate_left
      ·
       simp only [Act.put, List.setIfInBounds_toArray, List.set_cons_zero, List.set_cons_succ, i64_w, i32_w]
       rfl
      refine ps 14 71 #[true, true, true, true, true, true, true, true, true, true, true, true, true, true, true, false, true, false, true, false, false, false, false, false, false, false, false, false, false, false, false, false, false, false, false, false, false, false, false, false, false, false, false, false, false, false, false, false, false, false, false] HT_.out ?_
      refine take_ (i := 15) (N := some 72) (v := ?_) (a' := ?_) #[true, true, true, true, true, true, true, true, true, true, true, true, true, true, true, true, true, false, true, false, false, false, false, false, false, false, false, false, false, false, false, false, false, false, false, false, false, false, false, false, false, false, false, false, false, false, false, false, false, false, false] rfl rfl (take_ofW HT_.out HW_.out (by kernel_rfl)) (fun _ _ _ h => h) (Or.inl ⟨by rfl, ?_⟩) hHeld ?_ ?_
      rotate_left
      ·
       rintro w' ⟨s0, s1, s2, s3, s4⟩
       go_simp
       with_reducible rfl
      rotate_left
      ·
       simp only [Act.put, List.setIfInBounds_toArray, List.set_cons_zero, List.set_cons_succ, i64_w, i32_w]
       rfl
      refine one_ (i := 17) (N := some 74) (L_ 19 51) rfl rfl (one_of HT_.out (by kernel_rfl)) (by decide) (fun K hK => ?_)
      refine goes_ Try.func24 (by kernel_rfl) rfl #[.agg #[.int .i64 t567, .slice Ao26 t568.length co26], .slice Ao96 t572.length co96] (by rfl) rfl rfl mA ?_
      with_reducible refine (impl_HitBy.calls k2 t567 _ _ t568 _ _ t572 t589 _ ?side1 ?side2 ?side3 ?side4 A60.out).mono ?_
      (case side1 => exact mC (Kd.S_reads' HO_572001.out).2.2)
      (case side2 => exact (Kd.S_reads' HO_572001.out).2.1)
      (case side3 => exact mC (Kd.R_reads' HO_4.out).2.2)
      (case side4 => exact (Kd.R_reads' HO_4.out).2.1)
      rintro e w97 ⟨v590, rfl, ho0, hb⟩
      have HS2_ := (hb.cell (World.block_lt_of_cell? _ _ (hHeld.2.2.1))).trans (hHeld.2.2.1)
      have HS3_ := (hb.cell (World.block_lt_of_cell? _ _ (hHeld.2.2.2.1))).trans (hHeld.2.2.2.1)
      have HS4_ := (hb.cell (World.block_lt_of_cell? _ _ (hHeld.2.2.2.2))).trans (hHeld.2.2.2.2)
      refine ⟨_, rfl, ?_⟩
      have n0_ := Aside0.mk (Kd.R_elder' (mR HO_4.out) (Kd.R_base ho0) hb)
      have n1_ := Aside0.mk (Kd.R_below (mR HO_5.out) hb)
      have n2_ := Aside0.mk (Kd.R_elder' (mR HO_6.out) (Kd.R_base ho0) hb)
      have n3_ := Aside0.mk (Kd.S_elder' (mS HO_572001.out) (Kd.R_base ho0) hb)
      have n4_ := Aside0.mk (Kd.R_lower (Kd.R_new' (Kd.R_new' ho0 (Kd.R_lt (mR HO_4.out))) (Kd.R_lt (mR HO_6.out))) (below_size mG))
      have n5_ := Aside0.mk (blk_below (g := gb571) (o := .cells #[.int .i64 t567, .slice Ao26 t568.length co26] 28 (0, 0)) ((mK (BK571.out))) hb)
      have n6_ := Aside0.mk (below_step mG hb)
      clear HO_4 HO_5 HO_6 HO_572001 BK571 HB; have HO_4 := n0_; have HO_5 := n1_; have HO_6 := n2_; have HO_572001 := n3_; have HO591 := n4_; have BK571 := n5_; have HB := n6_; clear n0_ n1_ n2_ n3_ n4_ n5_ n6_; (try clear hb); (try clear ho0)
      obtain ⟨Ao98, co98, eo98⟩ := Kd.R_slice HO591.out
      (first | subst eo98 | (injection eo98 with f1_ f2_ f3_; have f4_ := f1_.symm; have f5_ := f3_.symm; clear f1_ f2_ f3_; subst f4_; subst f5_))
      refine hK.out _ _ ⟨(blk_cell BK571.out 0).trans rfl, (blk_cell BK571.out 1).trans rfl, HS2_, HS3_, HS4_⟩ (fun hHeld => ?_)
      clear hK K
      refine norm_ (a' := ?_) ?_ ?_
      rotate_left
      ·
       show Act.put _ (some 74) _ = _
       simp only [Act.put, List.setIfInBounds_toArray, List.set_cons_zero, List.set_cons_succ, i64_w, i32_w]
       rfl
      refine one_ (i := 19) (N := some 76) (L_ 20 51) rfl rfl (one_of HT_.out (by kernel_rfl)) (by decide) (fun K hK => ?_)
      refine goes_ Try.func51 (by kernel_rfl) rfl #[.slice Ao98 t589.length co98, .int .i64 x7_2] (by rfl) rfl rfl mA ?_
      with_reducible refine (laws_contains.calls k2 _ _ t589 x7_2 t592 _ ?side1 ?side2 A61.out).mono ?_
      (case side1 => exact mC (Kd.R_reads' HO591.out).2.2)
      (case side2 => exact (Kd.R_reads' HO591.out).2.1)
      rintro e w' ⟨rfl, ⟨nd, rfl⟩⟩
      refine ⟨_, rfl, ?_⟩
      obtain ⟨Ao99, co99, eo99⟩ := Kd.R_slice HO_6.out
      (first | subst eo99 | (injection eo99 with f1_ f2_ f3_; have f4_ := f1_.symm; have f5_ := f3_.symm; clear f1_ f2_ f3_; subst f4_; subst f5_))
      refine hK.out _ _ ⟨(blk_cell BK571.out 0).trans rfl, (blk_cell BK571.out 1).trans rfl, hHeld.2.2.1, hHeld.2.2.2.1, hHeld.2.2.2.2⟩ (fun hHeld => ?_)
      clear hK K
      refine norm_ (a' := ?_) ?_ ?_
      rotate_left
      ·
       show Act.put _ (some 76) _ = _
       simp only [Act.put, List.setIfInBounds_toArray, List.set_cons_zero, List.set_cons_succ, i64_w, i32_w]
       rfl
      refine ps 20 77 (L_ 21 51) HT_.out ?_
      refine ps 21 78 (L_ 22 51) HT_.out ?_
      refine ps 22 79 (L_ 23 51) HT_.out ?_
      refine ps 23 80 (L_ 24 51) HT_.out ?_
      refine ps 24 81 (L_ 25 51) HT_.out ?_
      refine ps 25 82 (L_ 26 51) HT_.out ?_
      refine ps 28 85 #[true, true, true, true, true, true, true, true, true, true, true, true, true, true, true, true, true, true, true, true, true, true, true, true, true, true, false, false, true, false, false, false, false, false, false, false, false, false, false, false, false, false, false, false, false, false, false, false, false, false, false] HT_.out ?_
      refine ps 29 86 #[true, true, true, true, true, true, true, true, true, true, true, true, true, true, true, true, true, true, true, true, true, true, true, true, true, true, false, false, true, true, false, false, false, false, false, false, false, false, false, false, false, false, false, false, false, false, false, false, false, false, false] HT_.out ?_
      refine take_ (i := 26) (N := some 83) (v := ?_) (a' := ?_) #[true, true, true, true, true, true, true, true, true, true, true, true, true, true, true, true, true, true, true, true, true, true, true, true, true, true, true, false, true, true, false, false, false, false, false, false, false, false, false, false, false, false, false, false, false, false, false, false, false, false, false] rfl rfl (take_ofW HT_.out HW_.out (by kernel_rfl)) (fun _ _ _ h => h) (Or.inl ⟨by rfl, ?_⟩) hHeld ?_ ?_
      rotate_left
      ·
       rintro w' ⟨s0, s1, s2, s3, s4⟩
       go_simp
       with_reducible rfl
      rotate_left
      ·
       simp only [Act.put, List.setIfInBounds_toArray, List.set_cons_zero, List.set_cons_succ, i64_w, i32_w]
       rfl
      refine ps 27 84 (L_ 30 51) HT_.out ?_
      refine one_ (i := 30) (N := some 87) (L_ 31 51) rfl rfl (one_of HT_.out (by kernel_rfl)) (by decide) (fun K hK => ?_)
      refine goes_ Try.func51 (by kernel_rfl) rfl #[.slice Ao99 t582.length co99, .int .i64 x7_2] (by rfl) rfl rfl mA ?_
      with_reducible refine (laws_contains.calls k2 _ _ t582 x7_2 t594 _ ?side1 ?side2 A70.out).mono ?_
      (case side1 => exact mC (Kd.R_reads' HO_6.out).2.2)
      (case side2 => exact (Kd.R_reads' HO_6.out).2.1)
      rintro e w' ⟨rfl, ⟨nd, rfl⟩⟩
      refine ⟨_, rfl, ?_⟩
      refine hK.out _ _ ⟨(blk_cell BK571.out 0).trans rfl, (blk_cell BK571.out 1).trans rfl, hHeld.2.2.1, hHeld.2.2.2.1, hHeld.2.2.2.2⟩ (fun hHeld => ?_)
      clear hK K
      refine norm_ (a' := ?_) ?_ ?_
      rotate_left
      ·
       show Act.put _ (some 87) _ = _
       simp only [Act.put, List.setIfInBounds_toArray, List.set_cons_zero, List.set_cons_succ, i64_w, i32_w]
       rfl
      refine ps 31 88 (L_ 32 51) HT_.out ?_
      refine ps 32 89 (L_ 33 51) HT_.out ?_
      refine ps 33 90 (L_ 34 51) HT_.out ?_
      refine ps 34 91 (L_ 35 51) HT_.out ?_
      refine ps 35 92 (L_ 36 51) HT_.out ?_
      refine ps 36 93 (L_ 37 51) HT_.out ?_
      refine ps 37 94 (L_ 38 51) HT_.out ?_
      refine one_ (i := 38) (N := some 95) (L_ 39 51) rfl rfl (one_of HT_.out (by kernel_rfl)) (by decide) (fun K hK => ?_)
      refine goes_ Try.func51 (by kernel_rfl) rfl #[.slice Ao96 t572.length co96, .int .i64 x7_2] (by rfl) rfl rfl mA ?_
      with_reducible refine (laws_contains.calls k2 _ _ t572 x7_2 t595 _ ?side1 ?side2 A80.out).mono ?_
      (case side1 => exact mC (Kd.R_reads' HO_4.out).2.2)
      (case side2 => exact (Kd.R_reads' HO_4.out).2.1)
      rintro e w' ⟨rfl, ⟨nd, rfl⟩⟩
      refine ⟨_, rfl, ?_⟩
      refine hK.out _ _ ⟨(blk_cell BK571.out 0).trans rfl, (blk_cell BK571.out 1).trans rfl, hHeld.2.2.1, hHeld.2.2.2.1, hHeld.2.2.2.2⟩ (fun hHeld => ?_)
      clear hK K
      refine norm_ (a' := ?_) ?_ ?_
      rotate_left
      ·
       show Act.put _ (some 95) _ = _
       simp only [Act.put, List.setIfInBounds_toArray, List.set_cons_zero, List.set_cons_succ, i64_w, i32_w]
       rfl
      refine ps 39 96 (L_ 40 51) HT_.out ?_
      refine ps 40 97 (L_ 41 51) HT_.out ?_
      refine ps 41 98 (L_ 42 51) HT_.out ?_
      refine ps 42 99 (L_ 43 51) HT_.out ?_
      refine ps 43 100 (L_ 44 51) HT_.out ?_
      refine ps 45 102 #[true, true, true, true, true, true, true, true, true, true, true, true, true, true, true, true, true, true, true, true, true, true, true, true, true, true, true, true, true, true, true, true, true, true, true, true, true, true, true, true, true, true, true, true, false, true, false, false, false, false, false] HT_.out ?_
      refine take_ (i := 44) (N := some 101) (v := ?_) (a' := ?_) (L_ 46 51) rfl rfl (take_ofW HT_.out HW_.out (by kernel_rfl)) (fun _ _ _ h => h) (Or.inl ⟨by rfl, ?_⟩) hHeld ?_ ?_
      rotate_left
      ·
       rintro w' ⟨s0, s1, s2, s3, s4⟩
       go_simp
       with_reducible rfl
      rotate_left
      ·
       simp only [Act.put, List.setIfInBounds_toArray, List.set_cons_zero, List.set_cons_succ, i64_w, i32_w]
       rfl
      refine one_ (i := 46) (N := some 103) (L_ 47 51) rfl rfl (one_of HT_.out (by kernel_rfl)) (by decide) (fun K hK => ?_)
      refine goes_ Try.func52 (by kernel_rfl) rfl #[.agg #[.int .i64 t567, .slice Ao26 t568.length co26], .int .i64 x7_2] (by rfl) rfl rfl mA ?_
      with_reducible refine (impl_AttackersOf.calls k2 t567 _ _ t568 x7_2 t596 _ ?side1 ?side2 A90.out).mono ?_
      (case side1 => exact mC (Kd.S_reads' HO_572001.out).2.2)
      (case side2 => exact (Kd.S_reads' HO_572001.out).2.1)
      rintro e w100 ⟨v597, rfl, ho0, hb⟩
      have HS2_ := (hb.cell (World.block_lt_of_cell? _ _ (hHeld.2.2.1))).trans (hHeld.2.2.1)
      have HS3_ := (hb.cell (World.block_lt_of_cell? _ _ (hHeld.2.2.2.1))).trans (hHeld.2.2.2.1)
      have HS4_ := (hb.cell (World.block_lt_of_cell? _ _ (hHeld.2.2.2.2))).trans (hHeld.2.2.2.2)
      refine ⟨_, rfl, ?_⟩
      have n0_ := Aside0.mk (Kd.R_elder' (mR HO_4.out) (Kd.R_base ho0) hb)
      have n1_ := Aside0.mk (Kd.R_below (mR HO_5.out) hb)
      have n2_ := Aside0.mk (Kd.R_elder' (mR HO_6.out) (Kd.R_base ho0) hb)
      have n3_ := Aside0.mk (Kd.S_elder' (mS HO_572001.out) (Kd.R_base ho0) hb)
      have n4_ := Aside0.mk (Kd.R_elder' (mR HO591.out) (Kd.R_base ho0) hb)
      have n5_ := Aside0.mk (Kd.R_lower (Kd.R_new' (Kd.R_new' (Kd.R_new' ho0 (Kd.R_lt (mR HO_4.out))) (Kd.R_lt (mR HO_6.out))) (Kd.R_lt (mR HO591.out))) (below_size mG))
      have n6_ := Aside0.mk (blk_below (g := gb571) (o := .cells #[.int .i64 t567, .slice Ao26 t568.length co26] 28 (0, 0)) ((mK (BK571.out))) hb)
      have n7_ := Aside0.mk (below_step mG hb)
      clear HO_4 HO_5 HO_6 HO_572001 HO591 BK571 HB; have HO_4 := n0_; have HO_5 := n1_; have HO_6 := n2_; have HO_572001 := n3_; have HO591 := n4_; have HO598 := n5_; have BK571 := n6_; have HB := n7_; clear n0_ n1_ n2_ n3_ n4_ n5_ n6_ n7_; (try clear hb); (try clear ho0)
      obtain ⟨Ao101, co101, eo101⟩ := Kd.R_slice HO598.out
      (first | subst eo101 | (injection eo101 with f1_ f2_ f3_; have f4_ := f1_.symm; have f5_ := f3_.symm; clear f1_ f2_ f3_; subst f4_; subst f5_))
      refine hK.out _ _ ⟨(blk_cell BK571.out 0).trans rfl, (blk_cell BK571.out 1).trans rfl, HS2_, HS3_, HS4_⟩ (fun hHeld => ?_)
      clear hK K
      refine norm_ (a' := ?_) ?_ ?_
      rotate_left
      ·
       show Act.put _ (some 103) _ = _
       simp only [Act.put, List.setIfInBounds_toArray, List.set_cons_zero, List.set_cons_succ, i64_w, i32_w]
       rfl
      refine ps 47 104 (L_ 48 51) HT_.out ?_
      refine ps 48 105 (L_ 49 51) HT_.out ?_
      refine ps 49 106 (L_ 50 51) HT_.out ?_
      refine ps 50 107 (L_ 51 51) HT_.out ?_
      refine done_ (done_of HT_.out (by kernel_rfl)) ?_
      try go_wp2
      go_ret
      exact ⟨mE, mG⟩
     rw [if_neg c91] at H
     have c91b0 : ((t585 == 1) != ((t596.length : Int) == 0)) = false := by simpa using c91
     (try (have c91b1 : decide ((t585 == 1) = ((t596.length : Int) == 0)) = true := by simpa using c91))
     (try (have c91b2 : ((t585 == 1) == ((t596.length : Int) == 0)) = true := by simpa using c91))
     clear c91
     have H' := Aside0.mk H
     clear H
     have hcz102_0 : wr.cell? ⟨gb571, 0, none⟩ = some (.int .i64 t567) := (blk_cell BK571.out 0).trans rfl
     have hcz102_1 : wr.cell? ⟨gb571, 1, none⟩ = some (.slice Ao26 t568.length co26) := (blk_cell BK571.out 1).trans rfl
     have hfz102_0 := blk_frozen BK571.out 0
     have hfz102_1 := blk_frozen BK571.out 1
     try go_wp2_with (first | ((with_reducible refine gate_callee (f := 41) rfl ?_); refine goesL_ (some 56) rfl rfl Try.func41 (by kernel_rfl) rfl #[.agg #[.int .i64 t567, .slice Ao26 t568.length co26], .int .i64 x7_2] rfl mA ?_; (with_reducible refine (impl_RoundOf.calls k2 t567 _ _ t568 x7_2 t585 _ ?side1 ?side2 A50.out).mono ?_); (case side1 => exact mC (Kd.S_reads' HO_572001.out).2.2); (case side2 => exact (Kd.S_reads' HO_572001.out).2.1); rintro e w103 ⟨rfl, hb⟩; refine ⟨_, rfl, ?_⟩; have n0_ := Aside0.mk (Kd.R_below (mR HO_4.out) hb); have n1_ := Aside0.mk (Kd.R_below (mR HO_5.out) hb); have n2_ := Aside0.mk (Kd.R_below (mR HO_6.out) hb); have n3_ := Aside0.mk (Kd.S_below (mS HO_572001.out) hb); have n4_ := Aside0.mk (blk_below (g := gb571) (o := .cells #[.int .i64 t567, .slice Ao26 t568.length co26] 28 (0, 0)) ((mK (BK571.out))) hb); have n5_ := Aside0.mk (below_step mG hb); clear HO_4 HO_5 HO_6 HO_572001 BK571 HB; have HO_4 := n0_; have HO_5 := n1_; have HO_6 := n2_; have HO_572001 := n3_; have BK571 := n4_; have HB := n5_; clear n0_ n1_ n2_ n3_ n4_ n5_; (try clear hb)))
     have n0_ := Aside0.mk (Kd.R_drew HO_4.out)
     have n1_ := Aside0.mk (Kd.R_drew HO_5.out)
     have n2_ := Aside0.mk (Kd.R_drew HO_6.out)
     have n3_ := Aside0.mk (Kd.S_drew HO_572001.out)
     have n4_ := Aside0.mk (blk_drew BK571.out)
     have n5_ := Aside0.mk (below_drew1 HB.out)
     clear HO_4 HO_5 HO_6 HO_572001 BK571 HB; have HO_4 := n0_; have HO_5 := n1_; have HO_6 := n2_; have HO_572001 := n3_; have BK571 := n4_; have HB := n5_; clear n0_ n1_ n2_ n3_ n4_ n5_
     obtain ⟨Ao105, co105, eo105⟩ := Kd.R_slice HO_5.out
     (first | subst eo105 | (injection eo105 with f1_ f2_ f3_; have f4_ := f1_.symm; have f5_ := f3_.symm; clear f1_ f2_ f3_; subst f4_; subst f5_))
     have p586 : 0 ≤ (x7_2 : Int) := mD
     have q586 : x7_2 < (t575.length : Int) := mD
     obtain ⟨ad586, e586, hx586_0⟩ := Kd.at_string (Kd.R_reads' HO_5.out).2.2 x7_2 p586 q586
     cases e586
     replace p586 := eq_true p586
     replace q586 := eq_true q586
     obtain ⟨Ao106, co106, eo106⟩ := Kd.R_slice HO_4.out
     (first | subst eo106 | (injection eo106 with f1_ f2_ f3_; have f4_ := f1_.symm; have f5_ := f3_.symm; clear f1_ f2_ f3_; subst f4_; subst f5_))
     have p588 : 0 ≤ (x7_2 : Int) := mD
     have q588 : x7_2 < (t575.length : Int) := mD
     obtain ⟨ad588, e588, hx588_0⟩ := Kd.at_string (Kd.R_reads' HO_5.out).2.2 x7_2 p588 q588
     obtain rfl : ad586 = ad588 := (by injection e588)
     replace p588 := eq_true p588
     replace q588 := eq_true q588
     have p593 : 0 ≤ (x7_2 : Int) := mD
     have q593 : x7_2 < (t575.length : Int) := mD
     obtain ⟨ad593, e593, hx593_0⟩ := Kd.at_string (Kd.R_reads' HO_5.out).2.2 x7_2 p593 q593
     obtain rfl : ad586 = ad593 := (by injection e593)
     replace p593 := eq_true p593
     replace q593 := eq_true q593
     refine start_ (n := 51) (S := fun w' => w'.cell? ⟨gb571, 0, none⟩ = some (.int .i64 t567) ∧ w'.cell? ⟨gb571, 1, none⟩ = some (.slice Ao26 t568.length co26) ∧ w'.cell? (ad586.add (x7_2).toNat) = some (.string (rdOf ByteArray.empty t575 x7_2)) ∧ w'.cell? (ad586.add (x7_2).toNat) = some (.string (rdOf ByteArray.empty t575 x7_2)) ∧ w'.cell? (ad586.add (x7_2).toNat) = some (.string (rdOf ByteArray.empty t575 x7_2))) (ds := []) (L_ 0 51) (by kernel_rfl) rfl rfl ⟨(blk_cell BK571.out 0).trans rfl, (blk_cell BK571.out 1).trans rfl, hx586_0, hx588_0, hx593_0⟩ (fun hHeld => ?_); refine with_tabW laws_FnGrounded.tab17 laws_FnGrounded.bits17 (fun HT_ HW_ => ?_)
     generalize w103.drew = w104 at HO_4 HO_5 HO_6 HO_572001 BK571 HB hx586_0 hx588_0 hx593_0 hHeld ⊢
     refine ps 0 57 (L_ 1 51) HT_.out ?_
     refine ps 1 58 (L_ 2 51) HT_.out ?_
     refine ps 2 59 (L_ 3 51) HT_.out ?_
     refine ps 5 62 #[true, true, true, false, false, true, false, false, false, false, false, false, false, false, false, false, false, false, false, false, false, false, false, false, false, false, false, false, false, false, false, false, false, false, false, false, false, false, false, false, false, false, false, false, false, false, false, false, false, false, false] HT_.out ?_
     refine ps 6 63 #[true, true, true, false, false, true, true, false, false, false, false, false, false, false, false, false, false, false, false, false, false, false, false, false, false, false, false, false, false, false, false, false, false, false, false, false, false, false, false, false, false, false, false, false, false, false, false, false, false, false, false] HT_.out ?_
     refine take_ (i := 3) (N := some 60) (v := ?_) (a' := ?_) #[true, true, true, true, false, true, true, false, false, false, false, false, false, false, false, false, false, false, false, false, false, false, false, false, false, false, false, false, false, false, false, false, false, false, false, false, false, false, false, false, false, false, false, false, false, false, false, false, false, false, false] rfl rfl (take_ofW HT_.out HW_.out (by kernel_rfl)) (fun _ _ _ h => h) (Or.inl ⟨by rfl, ?_⟩) hHeld ?_ ?_
     rotate_left
     ·
      rintro w' ⟨s0, s1, s2, s3, s4⟩
      go_simp
      with_reducible rfl
     rotate_left
     ·
      simp only [Act.put, List.setIfInBounds_toArray, List.set_cons_zero, List.set_cons_succ, i64_w, i32_w]
      rfl
     refine ps 4 61 (L_ 7 51) HT_.out ?_
     refine one_ (i := 7) (N := some 64) (L_ 8 51) rfl rfl (one_of HT_.out (by kernel_rfl)) (by decide) (fun K hK => ?_)
     refine goes_ Try.func51 (by kernel_rfl) rfl #[.slice Ao106 t572.length co106, .int .i64 x7_2] (by rfl) rfl rfl mA ?_
     with_reducible refine (laws_contains.calls k2 _ _ t572 x7_2 t587 _ ?side1 ?side2 A53.out).mono ?_
     (case side1 => exact mC (Kd.R_reads' HO_4.out).2.2)
     (case side2 => exact (Kd.R_reads' HO_4.out).2.1)
     rintro e w' ⟨rfl, ⟨nd, rfl⟩⟩
     refine ⟨_, rfl, ?_⟩
     refine hK.out _ _ ⟨(blk_cell BK571.out 0).trans rfl, (blk_cell BK571.out 1).trans rfl, hHeld.2.2.1, hHeld.2.2.2.1, hHeld.2.2.2.2⟩ (fun hHeld => ?_)
     clear hK K
     refine norm_ (a' := ?_) ?_ ?_
     rotate_left
     ·
      show Act.put _ (some 64) _ = _
      simp only [Act.put, List.setIfInBounds_toArray, List.set_cons_zero, List.set_cons_succ, i64_w, i32_w]
      rfl
     refine ps 8 65 (L_ 9 51) HT_.out ?_
     refine ps 9 66 (L_ 10 51) HT_.out ?_
     refine ps 10 67 (L_ 11 51) HT_.out ?_
     refine ps 11 68 (L_ 12 51) HT_.out ?_
     refine ps 12 69 (L_ 13 51) HT_.out ?_
     refine ps 16 73 #[true, true, true, true, true, true, true, true, true, true, true, true, true, false, false, false, true, false, false, false, false, false, false, false, false, false, false, false, false, false, false, false, false, false, false, false, false, false, false, false, false, false, false, false, false, false, false, false, false, false, false] HT_.out ?_
     refine ps 18 75 #[true, true, true, true, true, true, true, true, true, true, true, true, true, false, false, false, true, false, true, false, false, false, false, false, false, false, false, false, false, false, false, false, false, false, false, false, false, false, false, false, false, false, false, false, false, false, false, false, false, false, false] HT_.out ?_
     refine take_ (i := 13) (N := some 70) (v := ?_) (a' := ?_) #[true, true, true, true, true, true, true, true, true, true, true, true, true, true, false, false, true, false, true, false, false, false, false, false, false, false, false, false, false, false, false, false, false, false, false, false, false, false, false, false, false, false, false, false, false, false, false, false, false, false, false] rfl rfl (take_ofW HT_.out HW_.out (by kernel_rfl)) (fun _ _ _ h => h) (Or.inl ⟨by rfl, ?_⟩) hHeld ?_ ?_
     rotate_left
     ·
      rintro w' ⟨s0, s1, s2, s3, s4⟩
      go_simp
      with_reducible rfl
     rotate_left
     ·
      simp only [Act.put, List.setIfInBounds_toArray, List.set_cons_zero, List.set_cons_succ, i64_w, i32_w]
      rfl
     refine ps 14 71 #[true, true, true, true, true, true, true, true, true, true, true, true, true, true, true, false, true, false, true, false, false, false, false, false, false, false, false, false, false, false, false, false, false, false, false, false, false, false, false, false, false, false, false, false, false, false, false, false, false, false, false] HT_.out ?_
     refine take_ (i := 15) (N := some 72) (v := ?_) (a' := ?_) #[true, true, true, true, true, true, true, true, true, true, true, true, true, true, true, true, true, false, true, false, false, false, false, false, false, false, false, false, false, false, false, false, false, false, false, false, false, false, false, false, false, false, false, false, false, false, false, false, false, false, false] rfl rfl (take_ofW HT_.out HW_.out (by kernel_rfl)) (fun _ _ _ h => h) (Or.inl ⟨by rfl, ?_⟩) hHeld ?_ ?_
     rotate_left
     ·
      rintro w' ⟨s0, s1, s2, s3, s4⟩
      go_simp
      with_reducible rfl
     rotate_left
     ·
      simp only [Act.put, List.setIfInBounds_toArray, List.set_cons_zero, List.set_cons_succ, i64_w, i32_w]
      rfl
     refine one_ (i := 17) (N := some 74) (L_ 19 51) rfl rfl (one_of HT_.out (by kernel_rfl)) (by decide) (fun K hK => ?_)
     refine goes_ Try.func24 (by kernel_rfl) rfl #[.agg #[.int .i64 t567, .slice Ao26 t568.length co26], .slice Ao106 t572.length co106] (by rfl) rfl rfl mA ?_
     with_reducible refine (impl_HitBy.calls k2 t567 _ _ t568 _ _ t572 t589 _ ?side1 ?side2 ?side3 ?side4 A60.out).mono ?_
     (case side1 => exact mC (Kd.S_reads' HO_572001.out).2.2)
     (case side2 => exact (Kd.S_reads' HO_572001.out).2.1)
     (case side3 => exact mC (Kd.R_reads' HO_4.out).2.2)
     (case side4 => exact (Kd.R_reads' HO_4.out).2.1)
     rintro e w107 ⟨v590, rfl, ho0, hb⟩
     have HS2_ := (hb.cell (World.block_lt_of_cell? _ _ (hHeld.2.2.1))).trans (hHeld.2.2.1)
     have HS3_ := (hb.cell (World.block_lt_of_cell? _ _ (hHeld.2.2.2.1))).trans (hHeld.2.2.2.1)
     have HS4_ := (hb.cell (World.block_lt_of_cell? _ _ (hHeld.2.2.2.2))).trans (hHeld.2.2.2.2)
     refine ⟨_, rfl, ?_⟩
     have n0_ := Aside0.mk (Kd.R_elder' (mR HO_4.out) (Kd.R_base ho0) hb)
     have n1_ := Aside0.mk (Kd.R_below (mR HO_5.out) hb)
     have n2_ := Aside0.mk (Kd.R_elder' (mR HO_6.out) (Kd.R_base ho0) hb)
     have n3_ := Aside0.mk (Kd.S_elder' (mS HO_572001.out) (Kd.R_base ho0) hb)
     have n4_ := Aside0.mk (Kd.R_lower (Kd.R_new' (Kd.R_new' ho0 (Kd.R_lt (mR HO_4.out))) (Kd.R_lt (mR HO_6.out))) (below_size mG))
     have n5_ := Aside0.mk (blk_below (g := gb571) (o := .cells #[.int .i64 t567, .slice Ao26 t568.length co26] 28 (0, 0)) ((mK (BK571.out))) hb)
     have n6_ := Aside0.mk (below_step mG hb)
     clear HO_4 HO_5 HO_6 HO_572001 BK571 HB; have HO_4 := n0_; have HO_5 := n1_; have HO_6 := n2_; have HO_572001 := n3_; have HO591 := n4_; have BK571 := n5_; have HB := n6_; clear n0_ n1_ n2_ n3_ n4_ n5_ n6_; (try clear hb); (try clear ho0)
     obtain ⟨Ao108, co108, eo108⟩ := Kd.R_slice HO591.out
     (first | subst eo108 | (injection eo108 with f1_ f2_ f3_; have f4_ := f1_.symm; have f5_ := f3_.symm; clear f1_ f2_ f3_; subst f4_; subst f5_))
     refine hK.out _ _ ⟨(blk_cell BK571.out 0).trans rfl, (blk_cell BK571.out 1).trans rfl, HS2_, HS3_, HS4_⟩ (fun hHeld => ?_)
     clear hK K
     refine norm_ (a' := ?_) ?_ ?_
     rotate_left
     ·
      show Act.put _ (some 74) _ = _
      simp only [Act.put, List.setIfInBounds_toArray, List.set_cons_zero, List.set_cons_succ, i64_w, i32_w]
      rfl
     refine one_ (i := 19) (N := some 76) (L_ 20 51) rfl rfl (one_of HT_.out (by kernel_rfl)) (by decide) (fun K hK => ?_)
     refine goes_ Try.func51 (by kernel_rfl) rfl #[.slice Ao108 t589.length co108, .int .i64 x7_2] (by rfl) rfl rfl mA ?_
     with_reducible refine (laws_contains.calls k2 _ _ t589 x7_2 t592 _ ?side1 ?side2 A61.out).mono ?_
     (case side1 => exact mC (Kd.R_reads' HO591.out).2.2)
     (case side2 => exact (Kd.R_reads' HO591.out).2.1)
     rintro e w' ⟨rfl, ⟨nd, rfl⟩⟩
     refine ⟨_, rfl, ?_⟩
     obtain ⟨Ao109, co109, eo109⟩ := Kd.R_slice HO_6.out
     (first | subst eo109 | (injection eo109 with f1_ f2_ f3_; have f4_ := f1_.symm; have f5_ := f3_.symm; clear f1_ f2_ f3_; subst f4_; subst f5_))
     refine hK.out _ _ ⟨(blk_cell BK571.out 0).trans rfl, (blk_cell BK571.out 1).trans rfl, hHeld.2.2.1, hHeld.2.2.2.1, hHeld.2.2.2.2⟩ (fun hHeld => ?_)
     clear hK K
     refine norm_ (a' := ?_) ?_ ?_
     rotate_left
     ·
      show Act.put _ (some 76) _ = _
      simp only [Act.put, List.setIfInBounds_toArray, List.set_cons_zero, List.set_cons_succ, i64_w, i32_w]
      rfl
     refine ps 20 77 (L_ 21 51) HT_.out ?_
     refine ps 21 78 (L_ 22 51) HT_.out ?_
     refine ps 22 79 (L_ 23 51) HT_.out ?_
     refine ps 23 80 (L_ 24 51) HT_.out ?_
     refine ps 24 81 (L_ 25 51) HT_.out ?_
     refine ps 25 82 (L_ 26 51) HT_.out ?_
     refine ps 28 85 #[true, true, true, true, true, true, true, true, true, true, true, true, true, true, true, true, true, true, true, true, true, true, true, true, true, true, false, false, true, false, false, false, false, false, false, false, false, false, false, false, false, false, false, false, false, false, false, false, false, false, false] HT_.out ?_
     refine ps 29 86 #[true, true, true, true, true, true, true, true, true, true, true, true, true, true, true, true, true, true, true, true, true, true, true, true, true, true, false, false, true, true, false, false, false, false, false, false, false, false, false, false, false, false, false, false, false, false, false, false, false, false, false] HT_.out ?_
     refine take_ (i := 26) (N := some 83) (v := ?_) (a' := ?_) #[true, true, true, true, true, true, true, true, true, true, true, true, true, true, true, true, true, true, true, true, true, true, true, true, true, true, true, false, true, true, false, false, false, false, false, false, false, false, false, false, false, false, false, false, false, false, false, false, false, false, false] rfl rfl (take_ofW HT_.out HW_.out (by kernel_rfl)) (fun _ _ _ h => h) (Or.inl ⟨by rfl, ?_⟩) hHeld ?_ ?_
     rotate_left
     ·
      rintro w' ⟨s0, s1, s2, s3, s4⟩
      go_simp
      with_reducible rfl
     rotate_left
     ·
      simp only [Act.put, List.setIfInBounds_toArray, List.set_cons_zero, List.set_cons_succ, i64_w, i32_w]
      rfl
     refine ps 27 84 (L_ 30 51) HT_.out ?_
     refine one_ (i := 30) (N := some 87) (L_ 31 51) rfl rfl (one_of HT_.out (by kernel_rfl)) (by decide) (fun K hK => ?_)
     refine goes_ Try.func51 (by kernel_rfl) rfl #[.slice Ao109 t582.length co109, .int .i64 x7_2] (by rfl) rfl rfl mA ?_
     with_reducible refine (laws_contains.calls k2 _ _ t582 x7_2 t594 _ ?side1 ?side2 A70.out).mono ?_
     (case side1 => exact mC (Kd.R_reads' HO_6.out).2.2)
     (case side2 => exact (Kd.R_reads' HO_6.out).2.1)
     rintro e w' ⟨rfl, ⟨nd, rfl⟩⟩
     refine ⟨_, rfl, ?_⟩
     refine hK.out _ _ ⟨(blk_cell BK571.out 0).trans rfl, (blk_cell BK571.out 1).trans rfl, hHeld.2.2.1, hHeld.2.2.2.1, hHeld.2.2.2.2⟩ (fun hHeld => ?_)
     clear hK K
     refine norm_ (a' := ?_) ?_ ?_
     rotate_left
     ·
      show Act.put _ (some 87) _ = _
      simp only [Act.put, List.setIfInBounds_toArray, List.set_cons_zero, List.set_cons_succ, i64_w, i32_w]
      rfl
     refine ps 31 88 (L_ 32 51) HT_.out ?_
     refine ps 32 89 (L_ 33 51) HT_.out ?_
     refine ps 33 90 (L_ 34 51) HT_.out ?_
     refine ps 34 91 (L_ 35 51) HT_.out ?_
     refine ps 35 92 (L_ 36 51) HT_.out ?_
     refine ps 36 93 (L_ 37 51) HT_.out ?_
     refine ps 37 94 (L_ 38 51) HT_.out ?_
     refine one_ (i := 38) (N := some 95) (L_ 39 51) rfl rfl (one_of HT_.out (by kernel_rfl)) (by decide) (fun K hK => ?_)
     refine goes_ Try.func51 (by kernel_rfl) rfl #[.slice Ao106 t572.length co106, .int .i64 x7_2] (by rfl) rfl rfl mA ?_
     with_reducible refine (laws_contains.calls k2 _ _ t572 x7_2 t595 _ ?side1 ?side2 A80.out).mono ?_
     (case side1 => exact mC (Kd.R_reads' HO_4.out).2.2)
     (case side2 => exact (Kd.R_reads' HO_4.out).2.1)
     rintro e w' ⟨rfl, ⟨nd, rfl⟩⟩
     refine ⟨_, rfl, ?_⟩
     refine hK.out _ _ ⟨(blk_cell BK571.out 0).trans rfl, (blk_cell BK571.out 1).trans rfl, hHeld.2.2.1, hHeld.2.2.2.1, hHeld.2.2.2.2⟩ (fun hHeld => ?_)
     clear hK K
     refine norm_ (a' := ?_) ?_ ?_
     rotate_left
     ·
      show Act.put _ (some 95) _ = _
      simp only [Act.put, List.setIfInBounds_toArray, List.set_cons_zero, List.set_cons_succ, i64_w, i32_w]
      rfl
     refine ps 39 96 (L_ 40 51) HT_.out ?_
     refine ps 40 97 (L_ 41 51) HT_.out ?_
     refine ps 41 98 (L_ 42 51) HT_.out ?_
     refine ps 42 99 (L_ 43 51) HT_.out ?_
     refine ps 43 100 (L_ 44 51) HT_.out ?_
     refine ps 45 102 #[true, true, true, true, true, true, true, true, true, true, true, true, true, true, true, true, true, true, true, true, true, true, true, true, true, true, true, true, true, true, true, true, true, true, true, true, true, true, true, true, true, true, true, true, false, true, false, false, false, false, false] HT_.out ?_
     refine take_ (i := 44) (N := some 101) (v := ?_) (a' := ?_) (L_ 46 51) rfl rfl (take_ofW HT_.out HW_.out (by kernel_rfl)) (fun _ _ _ h => h) (Or.inl ⟨by rfl, ?_⟩) hHeld ?_ ?_
     rotate_left
     ·
      rintro w' ⟨s0, s1, s2, s3, s4⟩
      go_simp
      with_reducible rfl
     rotate_left
     ·
      simp only [Act.put, List.setIfInBounds_toArray, List.set_cons_zero, List.set_cons_succ, i64_w, i32_w]
      rfl
     refine one_ (i := 46) (N := some 103) (L_ 47 51) rfl rfl (one_of HT_.out (by kernel_rfl)) (by decide) (fun K hK => ?_)
     refine goes_ Try.func52 (by kernel_rfl) rfl #[.agg #[.int .i64 t567, .slice Ao26 t568.length co26], .int .i64 x7_2] (by rfl) rfl rfl mA ?_
     with_reducible refine (impl_AttackersOf.calls k2 t567 _ _ t568 x7_2 t596 _ ?side1 ?side2 A90.out).mono ?_
     (case side1 => exact mC (Kd.S_reads' HO_572001.out).2.2)
     (case side2 => exact (Kd.S_reads' HO_572001.out).2.1)
     rintro e w110 ⟨v597, rfl, ho0, hb⟩
     have HS2_ := (hb.cell (World.block_lt_of_cell? _ _ (hHeld.2.2.1))).trans (hHeld.2.2.1)
     have HS3_ := (hb.cell (World.block_lt_of_cell? _ _ (hHeld.2.2.2.1))).trans (hHeld.2.2.2.1)
     have HS4_ := (hb.cell (World.block_lt_of_cell? _ _ (hHeld.2.2.2.2))).trans (hHeld.2.2.2.2)
     refine ⟨_, rfl, ?_⟩
     have n0_ := Aside0.mk (Kd.R_elder' (mR HO_4.out) (Kd.R_base ho0) hb)
     have n1_ := Aside0.mk (Kd.R_below (mR HO_5.out) hb)
     have n2_ := Aside0.mk (Kd.R_elder' (mR HO_6.out) (Kd.R_base ho0) hb)
     have n3_ := Aside0.mk (Kd.S_elder' (mS HO_572001.out) (Kd.R_base ho0) hb)
     have n4_ := Aside0.mk (Kd.R_elder' (mR HO591.out) (Kd.R_base ho0) hb)
     have n5_ := Aside0.mk (Kd.R_lower (Kd.R_new' (Kd.R_new' (Kd.R_new' ho0 (Kd.R_lt (mR HO_4.out))) (Kd.R_lt (mR HO_6.out))) (Kd.R_lt (mR HO591.out))) (below_size mG))
     have n6_ := Aside0.mk (blk_below (g := gb571) (o := .cells #[.int .i64 t567, .slice Ao26 t568.length co26] 28 (0, 0)) ((mK (BK571.out))) hb)
     have n7_ := Aside0.mk (below_step mG hb)
     clear HO_4 HO_5 HO_6 HO_572001 HO591 BK571 HB; have HO_4 := n0_; have HO_5 := n1_; have HO_6 := n2_; have HO_572001 := n3_; have HO591 := n4_; have HO598 := n5_; have BK571 := n6_; have HB := n7_; clear n0_ n1_ n2_ n3_ n4_ n5_ n6_ n7_; (try clear hb); (try clear ho0)
     obtain ⟨Ao111, co111, eo111⟩ := Kd.R_slice HO598.out
     (first | subst eo111 | (injection eo111 with f1_ f2_ f3_; have f4_ := f1_.symm; have f5_ := f3_.symm; clear f1_ f2_ f3_; subst f4_; subst f5_))
     refine hK.out _ _ ⟨(blk_cell BK571.out 0).trans rfl, (blk_cell BK571.out 1).trans rfl, HS2_, HS3_, HS4_⟩ (fun hHeld => ?_)
     clear hK K
     refine norm_ (a' := ?_) ?_ ?_
     rotate_left
     ·
      show Act.put _ (some 103) _ = _
      simp only [Act.put, List.setIfInBounds_toArray, List.set_cons_zero, List.set_cons_succ, i64_w, i32_w]
      rfl
     refine ps 47 104 (L_ 48 51) HT_.out ?_
     refine ps 48 105 (L_ 49 51) HT_.out ?_
     refine ps 49 106 (L_ 50 51) HT_.out ?_
     refine ps 50 107 (L_ 51 51) HT_.out ?_
     refine done_ (done_of HT_.out (by kernel_rfl)) ?_
     try go_wp2
     go_roundg k2
     case measure => have := HJ21.out; have := HK2.out; omega
     case rel => exact ⟨(wrap64 (x7_2 + 1)), mF, H', ⟨by have := HJ21.out; have := HK2.out; omega⟩, ⟨by (with_reducible repeat (first | apply Kd.R_alloc | apply Kd.R_drewN | apply Kd.R_drew)); exact Kd.R_mono HO_4.out (fun _ hk => hk.1.1)⟩, ⟨mR HO_5.out⟩, ⟨by (with_reducible repeat (first | apply Kd.R_alloc | apply Kd.R_drewN | apply Kd.R_drew)); exact Kd.R_mono HO_6.out (fun _ hk => hk.1.1)⟩, ⟨by (with_reducible repeat (first | apply Kd.S_alloc | apply Kd.S_drewN | apply Kd.S_drew)); exact Kd.S_mono HO_572001.out (fun _ hk => ⟨hk.1.1.1, hk.1.1.2⟩)⟩, ⟨(mK (BK571.out))⟩, ⟨mG⟩⟩
/-- THE ONE PURE STATEMENT of laws_FnGrounded: yours. -/
def laws_FnGrounded.Pure : Prop := ∀ (l0 : List Int), l0.length ≤ maxLen → l0.length * 1 ≤ 140737488351232 → (∀ x ∈ l0, (Lit.int .u8 x).wf = true) → ∃ k, laws_FnGrounded.f k l0 = some true
theorem laws_FnGrounded.walk (P : laws_FnGrounded.Pure) (a0 : Option Addr) (len0 cap0 : Nat) (z0 : List Int) (w : World) (w0 : (a0 = none ∧ len0 = 0 ∧ cap0 = 0 ∧ z0 = []) ∨ ∃ x, a0 = some x ∧ len0 ≤ cap0 ∧ cap0 ≤ maxLen ∧ z0.length = cap0 ∧ (∀ i, i < z0.length → w.cell? (x.add i) = some (.int .u8 (z0.getD i 0))) ∧ ∀ n ∈ z0, (Lit.int .u8 n).wf = true) (y0 : len0 * 1 ≤ 140737488351232) :
  Calls Try.prog 16 #[.slice a0 len0 cap0] w fun e w' => e = .returned (.bool true) ∧ Below w.heap.size w w' := by
 obtain ⟨l0, rfl, hr0, hm0, hw0, hc0⟩ := ReadsInt.ofRowC w0
 obtain ⟨k, h⟩ := P l0 hm0 y0 hw0
 refine (laws_FnGrounded.calls k _ _ l0 true w (Kd.C_of_reads (d := (0 : Int)) (h1 := fun _ => rfl) hr0) hc0 h).mono ?_
 rintro e w' ⟨rfl, hd⟩
 exact ⟨rfl, hd⟩

end Go.Proofs.Ytelkfhlnejlheaa.GFnGrounded
