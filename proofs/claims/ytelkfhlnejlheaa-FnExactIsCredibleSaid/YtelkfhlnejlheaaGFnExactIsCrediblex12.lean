-- Written by gprint.py, a program of this session, with the printer of the kit as its library. Lean checks it.
import Derived.Test.YtelkfhlnejlheaaGFnExactIsCrediblex0
import Derived.Test.YtelkfhlnejlheaaGFnExactIsCrediblex1
import Derived.Test.YtelkfhlnejlheaaGFnExactIsCrediblex7
import Derived.Test.YtelkfhlnejlheaaGFnExactIsCrediblex11
namespace Go.Proofs.Ytelkfhlnejlheaa.GFnExactIsCredible
open Go.RowKit Go.Proofs.YtelkfhlnejlheaaW.PrintWords Go.Proofs.YtelkfhlnejlheaaW.PrintLast Go.Proofs.YtelkfhlnejlheaaW.PrintMore
attribute [local go_sem] max2_int min2_int max_two min_two max_three min_three max_four min_four   -- for this text's walks alone
set_option linter.unusedVariables false
set_option linter.unusedSimpArgs false

/-! ### laws_FnExactIsCredible: function 18 -/
def laws_FnExactIsCredible.f (k : Nat) (a0_0 : Int) (l0_1 : List (List Int)) (a1 : Int) : Option (Bool) := (laws_szGraph.f k a0_0 l0_1 1048576).bind fun t419 => (if t419 < 0 then (some true) else ((laws_toGraph.f k a0_0 l0_1).bind fun bt420 => ((spec_IsCredible.f k bt420.1 bt420.2 a1).bind fun t424 => ((laws_toGraph.f k a0_0 l0_1).bind fun bt425 => ((impl_IsCredible.f k bt425.1 bt425.2 a1).bind fun t430 => (if (t430 != t424) = true then (some false) else ((laws_toGraph.f k a0_0 l0_1).bind fun bt431 => ((laws_eqGraph.f k bt425.1 bt425.2 bt431.1 bt431.2).bind fun t435 => (if t435 = true then (some true) else (some false))))))))))
theorem laws_FnExactIsCredible.mono : ∀ a0 a1 a2 k, LeO (laws_FnExactIsCredible.f k a0 a1 a2) (laws_FnExactIsCredible.f (k + 1) a0 a1 a2) := by
 intro a0 a1 a2 k
 unfold laws_FnExactIsCredible.f
 repeat' with_reducible first | exact impl_IsCredible.mono _ _ _ _ | exact laws_eqGraph.mono _ _ _ _ _ | exact laws_szGraph.mono _ _ _ _ | exact laws_toGraph.mono _ _ _ | exact spec_IsCredible.mono _ _ _ _ | exact LeO.refl _ | exact LeO.none _ | refine LeO.ite ?_ ?_ | refine LeO.bind ?_ (fun _ => ?_)
set_option maxHeartbeats 8000000 in
set_option maxRecDepth 100000 in
theorem laws_FnExactIsCredible.calls (k : Nat) (a0_0 : Int) (A0_1 : Option Addr) (c0_1 : Nat) (l0_1 : List (List Int)) (a1 : Int) (r : Bool) (w : World) (hr0_1 : Kd.C (Kd.slice 3 (Kd.int .i64)) w A0_1 l0_1.length l0_1) (hc0_1 : l0_1.length ≤ c0_1) (h : laws_FnExactIsCredible.f k a0_0 l0_1 a1 = some r) :
  Calls Try.prog 18 #[.agg #[.int .i64 a0_0, .slice A0_1 l0_1.length c0_1], .int .i64 a1] w fun e w' => e = .returned (.bool r) ∧ Below w.heap.size w w' := by
 have hu24 := Try.underlying24
 have hu28 := Try.underlying28
 have HR0_1 := Aside0.mk hr0_1
 have HC0_1 := Aside0.mk hc0_1
 clear hr0_1 hc0_1
 have HB := Aside0.mk (Below.refl w.heap.size w)
 have H : ((laws_szGraph.f k a0_0 l0_1 1048576).bind fun t419 => (if t419 < 0 then (some true) else ((laws_toGraph.f k a0_0 l0_1).bind fun bt420 => ((spec_IsCredible.f k bt420.1 bt420.2 a1).bind fun t424 => ((laws_toGraph.f k a0_0 l0_1).bind fun bt425 => ((impl_IsCredible.f k bt425.1 bt425.2 a1).bind fun t430 => (if (t430 != t424) = true then (some false) else ((laws_toGraph.f k a0_0 l0_1).bind fun bt431 => ((laws_eqGraph.f k bt425.1 bt425.2 bt431.1 bt431.2).bind fun t435 => (if t435 = true then (some true) else (some false))))))))))) = some r := h
 clear h
 replace H := Option.bind_eq_some_iff.mp H
 obtain ⟨t419, A30, H⟩ := H
 have A3 := Aside0.mk A30
 clear A30
 by_cases c4 : t419 < 0
 ·
  rw [if_pos c4] at H
  have c4b0 : decide (t419 < 0) = true := decide_eq_true c4
  clear c4
  obtain rfl := Option.some.inj H
  go_enter Try.func18, Try.ntmps18
  go_wp2_with (first | ((with_reducible refine gate_dst (N := 2) rfl ?_); refine box_event ?hg (N := 2) ?hd (cs := #[.int .i64 a0_0, .slice A0_1 l0_1.length c0_1]) (t := 24) ?hr ?_; (case hd => rfl); (case hg => rfl); (case hr => first | (go_simp; done) | (go_simp; rfl)); intro gb418 hg w5 hbox hb; have n0_ := Aside0.mk (below_step (mB HB.out) hb); have n1_ := Aside0.mk (hbox); have n2_ := Aside0.mk ((by rw [hg]; exact (below_size (mB HB.out)) : w.heap.size ≤ gb418)); have n3_ := Aside0.mk ((by rw [hg]; exact (below_size (mB HB.out)) : w.heap.size ≤ gb418)); clear HB; have HB := n0_; have BK418 := n1_; have GW418 := n2_; have GE418 := n3_; clear n0_ n1_ n2_ n3_; clear hb hbox hg; have hcz6_0 : w5.cell? ⟨gb418, 0, none⟩ = some (.int .i64 a0_0) := (blk_cell BK418.out 0).trans rfl; have hcz6_1 : w5.cell? ⟨gb418, 1, none⟩ = some (.slice A0_1 l0_1.length c0_1) := (blk_cell BK418.out 1).trans rfl; have hfz6_0 := blk_frozen BK418.out 0; have hfz6_1 := blk_frozen BK418.out 1) | ((with_reducible refine gate_callee (f := 20) rfl ?_); refine goesL_ (some 11) rfl rfl Try.func20 (by kernel_rfl) rfl #[.agg #[.int .i64 a0_0, .slice A0_1 l0_1.length c0_1], .int .i64 1048576] rfl mA ?_; (with_reducible refine (laws_szGraph.calls k a0_0 _ _ l0_1 1048576 t419 _ ?side1 ?side2 A3.out).mono ?_); (case side1 => exact mC (Kd.C_below HR0_1.out HB.out)); (case side2 => exact HC0_1.out); rintro e w7 ⟨rfl, hb⟩; refine ⟨_, rfl, ?_⟩; have n0_ := Aside0.mk (blk_below (g := gb418) (o := .cells #[.int .i64 a0_0, .slice A0_1 l0_1.length c0_1] 24 (0, 0)) ((mK (BK418.out))) hb); have n1_ := Aside0.mk (below_step mG hb); clear BK418 HB; have BK418 := n0_; have HB := n1_; clear n0_ n1_; (try clear hb)))
  go_ret
  exact ⟨mE, mG⟩
 rw [if_neg c4] at H
 have c4b0 : decide (t419 < 0) = false := decide_eq_false c4
 clear c4
 replace H := Option.bind_eq_some_iff.mp H
 obtain ⟨⟨t420, t421⟩, A80, H⟩ := H
 try dsimp only at H
 have A8 := Aside0.mk A80
 clear A80
 replace H := Option.bind_eq_some_iff.mp H
 obtain ⟨t424, A90, H⟩ := H
 have A9 := Aside0.mk A90
 clear A90
 replace H := Option.bind_eq_some_iff.mp H
 obtain ⟨⟨t425, t426⟩, A100, H⟩ := H
 try dsimp only at H
 have A10 := Aside0.mk A100
 clear A100
 replace H := Option.bind_eq_some_iff.mp H
 obtain ⟨t430, A110, H⟩ := H
 have A11 := Aside0.mk A110
 clear A110
 by_cases c12 : (t430 != t424) = true
 ·
  rw [if_pos c12] at H
  have c12b0 : (t430 != t424) = true := c12
  (try (have c12b1 : decide (t430 = t424) = false := by simpa using c12))
  (try (have c12b2 : (t430 == t424) = false := by simpa using c12))
  (try (have c12b3 : ¬ (t430 = t424) := by simpa using c12))
  clear c12
  obtain rfl := Option.some.inj H
  go_enter Try.func18, Try.ntmps18
  go_wp2_with (first | ((with_reducible refine gate_dst (N := 2) rfl ?_); refine box_event ?hg (N := 2) ?hd (cs := #[.int .i64 a0_0, .slice A0_1 l0_1.length c0_1]) (t := 24) ?hr ?_; (case hd => rfl); (case hg => rfl); (case hr => first | (go_simp; done) | (go_simp; rfl)); intro gb418 hg w13 hbox hb; have n0_ := Aside0.mk (below_step (mB HB.out) hb); have n1_ := Aside0.mk (hbox); have n2_ := Aside0.mk ((by rw [hg]; exact (below_size (mB HB.out)) : w.heap.size ≤ gb418)); have n3_ := Aside0.mk ((by rw [hg]; exact (below_size (mB HB.out)) : w.heap.size ≤ gb418)); clear HB; have HB := n0_; have BK418 := n1_; have GW418 := n2_; have GE418 := n3_; clear n0_ n1_ n2_ n3_; clear hb hbox hg; have hcz14_0 : w13.cell? ⟨gb418, 0, none⟩ = some (.int .i64 a0_0) := (blk_cell BK418.out 0).trans rfl; have hcz14_1 : w13.cell? ⟨gb418, 1, none⟩ = some (.slice A0_1 l0_1.length c0_1) := (blk_cell BK418.out 1).trans rfl; have hfz14_0 := blk_frozen BK418.out 0; have hfz14_1 := blk_frozen BK418.out 1) | ((with_reducible refine gate_callee (f := 20) rfl ?_); refine goesL_ (some 11) rfl rfl Try.func20 (by kernel_rfl) rfl #[.agg #[.int .i64 a0_0, .slice A0_1 l0_1.length c0_1], .int .i64 1048576] rfl mA ?_; (with_reducible refine (laws_szGraph.calls k a0_0 _ _ l0_1 1048576 t419 _ ?side1 ?side2 A3.out).mono ?_); (case side1 => exact mC (Kd.C_below HR0_1.out HB.out)); (case side2 => exact HC0_1.out); rintro e w15 ⟨rfl, hb⟩; refine ⟨_, rfl, ?_⟩; have n0_ := Aside0.mk (blk_below (g := gb418) (o := .cells #[.int .i64 a0_0, .slice A0_1 l0_1.length c0_1] 24 (0, 0)) ((mK (BK418.out))) hb); have n1_ := Aside0.mk (below_step mG hb); clear BK418 HB; have BK418 := n0_; have HB := n1_; clear n0_ n1_; (try clear hb); have hcz16_0 : w15.cell? ⟨gb418, 0, none⟩ = some (.int .i64 a0_0) := (blk_cell BK418.out 0).trans rfl; have hcz16_1 : w15.cell? ⟨gb418, 1, none⟩ = some (.slice A0_1 l0_1.length c0_1) := (blk_cell BK418.out 1).trans rfl; have hfz16_0 := blk_frozen BK418.out 0; have hfz16_1 := blk_frozen BK418.out 1) | ((with_reducible refine gate_callee (f := 22) rfl ?_); refine goesL_ (some 15) rfl rfl Try.func22 (by kernel_rfl) rfl #[.agg #[.int .i64 a0_0, .slice A0_1 l0_1.length c0_1]] rfl mA ?_; (with_reducible refine (laws_toGraph.calls k a0_0 _ _ l0_1 t420 t421 _ ?side1 ?side2 A8.out).mono ?_); (case side1 => exact mC (Kd.C_below HR0_1.out HB.out)); (case side2 => exact HC0_1.out); rintro e w17 ⟨v422, rfl, ho0, hb⟩; refine ⟨_, rfl, ?_⟩; have n0_ := Aside0.mk (Kd.S_lower ho0 (below_size mG)); have n1_ := Aside0.mk (blk_below (g := gb418) (o := .cells #[.int .i64 a0_0, .slice A0_1 l0_1.length c0_1] 24 (0, 0)) ((mK (BK418.out))) hb); have n2_ := Aside0.mk (below_step mG hb); clear BK418 HB; have HO423 := n0_; have BK418 := n1_; have HB := n2_; clear n0_ n1_ n2_; (try clear hb); (try clear ho0); obtain ⟨Ao18, co18, eo18⟩ := Kd.S_slice HO423.out; subst eo18) | ((with_reducible refine gate_callee (f := 74) rfl ?_); refine goesL_ (some 17) rfl rfl Try.func74 (by kernel_rfl) rfl #[.agg #[.int .i64 t420, .slice Ao18 t421.length co18], .int .i64 a1] rfl mA ?_; (with_reducible refine (spec_IsCredible.calls k t420 _ _ t421 a1 t424 _ ?side1 ?side2 A9.out).mono ?_); (case side1 => exact mC (Kd.S_reads' HO423.out).2.2); (case side2 => exact (Kd.S_reads' HO423.out).2.1); rintro e w19 ⟨rfl, hb⟩; refine ⟨_, rfl, ?_⟩; have n0_ := Aside0.mk (Kd.S_below (mS HO423.out) hb); have n1_ := Aside0.mk (blk_below (g := gb418) (o := .cells #[.int .i64 a0_0, .slice A0_1 l0_1.length c0_1] 24 (0, 0)) ((mK (BK418.out))) hb); have n2_ := Aside0.mk (below_step mG hb); clear HO423 BK418 HB; have HO423 := n0_; have BK418 := n1_; have HB := n2_; clear n0_ n1_ n2_; (try clear hb); have hcz20_0 : w19.cell? ⟨gb418, 0, none⟩ = some (.int .i64 a0_0) := (blk_cell BK418.out 0).trans rfl; have hcz20_1 : w19.cell? ⟨gb418, 1, none⟩ = some (.slice A0_1 l0_1.length c0_1) := (blk_cell BK418.out 1).trans rfl; have hfz20_0 := blk_frozen BK418.out 0; have hfz20_1 := blk_frozen BK418.out 1) | ((with_reducible refine gate_callee (f := 22) rfl ?_); refine goesL_ (some 19) rfl rfl Try.func22 (by kernel_rfl) rfl #[.agg #[.int .i64 a0_0, .slice A0_1 l0_1.length c0_1]] rfl mA ?_; (with_reducible refine (laws_toGraph.calls k a0_0 _ _ l0_1 t425 t426 _ ?side1 ?side2 A10.out).mono ?_); (case side1 => exact mC (Kd.C_below HR0_1.out HB.out)); (case side2 => exact HC0_1.out); rintro e w21 ⟨v427, rfl, ho0, hb⟩; refine ⟨_, rfl, ?_⟩; have n0_ := Aside0.mk (Kd.S_elder' (mS HO423.out) (Kd.S_base ho0) hb); have n1_ := Aside0.mk (Kd.S_lower (Kd.S_new' ho0 (Kd.S_lt (mS HO423.out))) (below_size mG)); have n2_ := Aside0.mk (blk_below (g := gb418) (o := .cells #[.int .i64 a0_0, .slice A0_1 l0_1.length c0_1] 24 (0, 0)) ((mK (BK418.out))) hb); have n3_ := Aside0.mk (below_step mG hb); clear HO423 BK418 HB; have HO423 := n0_; have HO428 := n1_; have BK418 := n2_; have HB := n3_; clear n0_ n1_ n2_ n3_; (try clear hb); (try clear ho0)) | ((with_reducible refine gate_dst (N := 7) rfl ?_); refine box_event ?hg (N := 7) ?hd (cs := #[.int .i64 0, .slice none 0 0]) (t := 28) ?hr ?_; (case hd => rfl); (case hg => rfl); (case hr => first | (go_simp; done) | (go_simp; rfl)); intro gb429 hg w22 hbox hb; have n0_ := Aside0.mk (Kd.S_below (mS HO423.out) hb); have n1_ := Aside0.mk (Kd.S_below (mS HO428.out) hb); have n2_ := Aside0.mk (blk_below (g := gb418) (o := .cells #[.int .i64 a0_0, .slice A0_1 l0_1.length c0_1] 24 (0, 0)) ((mK (BK418.out))) hb); have n3_ := Aside0.mk (below_step mG hb); have n4_ := Aside0.mk (hbox); have n5_ := Aside0.mk ((by rw [hg]; exact (below_size mG) : w.heap.size ≤ gb429)); have n6_ := Aside0.mk ((by rw [hg]; exact (below_size mG) : w.heap.size ≤ gb429)); have n7_ := Aside0.mk ((by rw [hg]; exact Nat.ne_of_lt (blk_lt (g := gb418) (o := .cells #[.int .i64 a0_0, .slice A0_1 l0_1.length c0_1] 24 (0, 0)) ((mK (BK418.out)))) : gb418 ≠ gb429)); have n8_ := Aside0.mk ((by rw [hg]; exact Nat.ne_of_gt (blk_lt (g := gb418) (o := .cells #[.int .i64 a0_0, .slice A0_1 l0_1.length c0_1] 24 (0, 0)) ((mK (BK418.out)))) : gb429 ≠ gb418)); clear HO423 HO428 BK418 HB; have HO423 := n0_; have HO428 := n1_; have BK418 := n2_; have HB := n3_; have BK429 := n4_; have GW429 := n5_; have GE429 := n6_; have NB418_429 := n7_; have NB429_418 := n8_; clear n0_ n1_ n2_ n3_ n4_ n5_ n6_ n7_ n8_; clear hb hbox hg; have hnb23 := NB429_418.out; have hnc23 := NB418_429.out; have hcz24_0 : w22.cell? ⟨gb429, 0, none⟩ = some (.int .i64 0) := (blk_cell BK429.out 0).trans rfl; have hcz24_1 : w22.cell? ⟨gb429, 1, none⟩ = some (.slice none 0 0) := (blk_cell BK429.out 1).trans rfl; have hfz24_0 := blk_frozen BK429.out 0; have hfz24_1 := blk_frozen BK429.out 1; obtain ⟨Ao25, co25, eo25⟩ := Kd.S_slice HO428.out; subst eo25) | ((with_reducible refine gate_callee (f := 75) rfl ?_); refine goesL_ (some 22) rfl rfl Try.func75 (by kernel_rfl) rfl #[.agg #[.int .i64 t425, .slice Ao25 t426.length co25], .int .i64 a1] rfl mA ?_; (with_reducible refine (impl_IsCredible.calls k t425 _ _ t426 a1 t430 _ ?side1 ?side2 A11.out).mono ?_); (case side1 => refine (Kd.S_reads' (e := 25) (base := w.heap.size) (ok := fun k_ => (True ∧ some k_ ≠ (.slice Ao18 t421.length co18 : Value).ownBlock)) (n := t426.length) (c := co25) ?_).2.2; exact (mS ((Kd.S_mono (Kd.S_far (p := ⟨gb429, 1, none⟩) (Kd.S_far (p := ⟨gb429, 0, none⟩) (Kd.S_types HO428.out BK429.out (by decide)) (fun _ hk => hk.2) (.int .i64 t425)) (fun _ hk => hk.2) (.slice Ao25 t426.length co25)) (fun _ h_ => h_.1))))); (case side2 => exact (Kd.S_reads' HO428.out).2.1); rintro e w26 ⟨rfl, hb⟩; refine ⟨_, rfl, ?_⟩; have n0_ := Aside0.mk (Kd.S_below (mS ((Kd.S_mono (Kd.S_far (p := ⟨gb429, 1, none⟩) (Kd.S_far (p := ⟨gb429, 0, none⟩) (Kd.S_types HO423.out BK429.out (by decide)) (fun _ hk => hk.2) (.int .i64 t425)) (fun _ hk => hk.2) (.slice Ao25 t426.length co25)) (fun _ h_ => h_.1)))) hb); have n1_ := Aside0.mk (Kd.S_below (mS ((Kd.S_mono (Kd.S_far (p := ⟨gb429, 1, none⟩) (Kd.S_far (p := ⟨gb429, 0, none⟩) (Kd.S_types HO428.out BK429.out (by decide)) (fun _ hk => hk.2) (.int .i64 t425)) (fun _ hk => hk.2) (.slice Ao25 t426.length co25)) (fun _ h_ => h_.1)))) hb); have n2_ := Aside0.mk (blk_below (g := gb418) (o := .cells #[.int .i64 a0_0, .slice A0_1 l0_1.length c0_1] 24 (0, 0)) (by refine pK ?_; refine blk_far ?_ NB418_429.out _; refine pK ?_; refine blk_far ?_ NB418_429.out _; refine pK ?_; exact BK418.out) hb); have n3_ := Aside0.mk (blk_below (g := gb429) (o := .cells #[.int .i64 t425, .slice Ao25 t426.length co25] 28 (0, 0)) (by refine pK ?_; refine blk_put (cs := #[.int .i64 t425, .slice none 0 0]) ?_ 1 _ rfl; refine pK ?_; refine blk_put (cs := #[.int .i64 0, .slice none 0 0]) ?_ 0 _ rfl; refine pK ?_; exact BK429.out) hb); have n4_ := Aside0.mk (below_step mG hb); clear HO423 HO428 BK418 BK429 HB; have HO423 := n0_; have HO428 := n1_; have BK418 := n2_; have BK429 := n3_; have HB := n4_; clear n0_ n1_ n2_ n3_ n4_; (try clear hb)))
  go_ret
  exact ⟨mE, mG⟩
 rw [if_neg c12] at H
 have c12b0 : (t430 != t424) = false := by simpa using c12
 (try (have c12b1 : decide (t430 = t424) = true := by simpa using c12))
 (try (have c12b2 : (t430 == t424) = true := by simpa using c12))
 clear c12
 replace H := Option.bind_eq_some_iff.mp H
 obtain ⟨⟨t431, t432⟩, A270, H⟩ := H
 try dsimp only at H
 have A27 := Aside0.mk A270
 clear A270
 replace H := Option.bind_eq_some_iff.mp H
 obtain ⟨t435, A280, H⟩ := H
 have A28 := Aside0.mk A280
 clear A280
 by_cases c29 : t435 = true
 ·
  subst c29
  rw [if_pos rfl] at H
  obtain rfl := Option.some.inj H
  go_enter Try.func18, Try.ntmps18
  try go_wp2_with (first | ((with_reducible refine gate_dst (N := 2) rfl ?_); refine box_event ?hg (N := 2) ?hd (cs := #[.int .i64 a0_0, .slice A0_1 l0_1.length c0_1]) (t := 24) ?hr ?_; (case hd => rfl); (case hg => rfl); (case hr => first | (go_simp; done) | (go_simp; rfl)); intro gb418 hg w30 hbox hb; have n0_ := Aside0.mk (below_step (mB HB.out) hb); have n1_ := Aside0.mk (hbox); have n2_ := Aside0.mk ((by rw [hg]; exact (below_size (mB HB.out)) : w.heap.size ≤ gb418)); have n3_ := Aside0.mk ((by rw [hg]; exact (below_size (mB HB.out)) : w.heap.size ≤ gb418)); clear HB; have HB := n0_; have BK418 := n1_; have GW418 := n2_; have GE418 := n3_; clear n0_ n1_ n2_ n3_; clear hb hbox hg; have hcz31_0 : w30.cell? ⟨gb418, 0, none⟩ = some (.int .i64 a0_0) := (blk_cell BK418.out 0).trans rfl; have hcz31_1 : w30.cell? ⟨gb418, 1, none⟩ = some (.slice A0_1 l0_1.length c0_1) := (blk_cell BK418.out 1).trans rfl; have hfz31_0 := blk_frozen BK418.out 0; have hfz31_1 := blk_frozen BK418.out 1) | ((with_reducible refine gate_callee (f := 20) rfl ?_); refine goesL_ (some 11) rfl rfl Try.func20 (by kernel_rfl) rfl #[.agg #[.int .i64 a0_0, .slice A0_1 l0_1.length c0_1], .int .i64 1048576] rfl mA ?_; (with_reducible refine (laws_szGraph.calls k a0_0 _ _ l0_1 1048576 t419 _ ?side1 ?side2 A3.out).mono ?_); (case side1 => exact mC (Kd.C_below HR0_1.out HB.out)); (case side2 => exact HC0_1.out); rintro e w32 ⟨rfl, hb⟩; refine ⟨_, rfl, ?_⟩; have n0_ := Aside0.mk (blk_below (g := gb418) (o := .cells #[.int .i64 a0_0, .slice A0_1 l0_1.length c0_1] 24 (0, 0)) ((mK (BK418.out))) hb); have n1_ := Aside0.mk (below_step mG hb); clear BK418 HB; have BK418 := n0_; have HB := n1_; clear n0_ n1_; (try clear hb); have hcz33_0 : w32.cell? ⟨gb418, 0, none⟩ = some (.int .i64 a0_0) := (blk_cell BK418.out 0).trans rfl; have hcz33_1 : w32.cell? ⟨gb418, 1, none⟩ = some (.slice A0_1 l0_1.length c0_1) := (blk_cell BK418.out 1).trans rfl; have hfz33_0 := blk_frozen BK418.out 0; have hfz33_1 := blk_frozen BK418.out 1) | ((with_reducible refine gate_callee (f := 22) rfl ?_); refine goesL_ (some 15) rfl rfl Try.func22 (by kernel_rfl) rfl #[.agg #[.int .i64 a0_0, .slice A0_1 l0_1.length c0_1]] rfl mA ?_; (with_reducible refine (laws_toGraph.calls k a0_0 _ _ l0_1 t420 t421 _ ?side1 ?side2 A8.out).mono ?_); (case side1 => exact mC (Kd.C_below HR0_1.out HB.out)); (case side2 => exact HC0_1.out); rintro e w34 ⟨v422, rfl, ho0, hb⟩; refine ⟨_, rfl, ?_⟩; have n0_ := Aside0.mk (Kd.S_lower ho0 (below_size mG)); have n1_ := Aside0.mk (blk_below (g := gb418) (o := .cells #[.int .i64 a0_0, .slice A0_1 l0_1.length c0_1] 24 (0, 0)) ((mK (BK418.out))) hb); have n2_ := Aside0.mk (below_step mG hb); clear BK418 HB; have HO423 := n0_; have BK418 := n1_; have HB := n2_; clear n0_ n1_ n2_; (try clear hb); (try clear ho0); obtain ⟨Ao35, co35, eo35⟩ := Kd.S_slice HO423.out; subst eo35) | ((with_reducible refine gate_callee (f := 74) rfl ?_); refine goesL_ (some 17) rfl rfl Try.func74 (by kernel_rfl) rfl #[.agg #[.int .i64 t420, .slice Ao35 t421.length co35], .int .i64 a1] rfl mA ?_; (with_reducible refine (spec_IsCredible.calls k t420 _ _ t421 a1 t424 _ ?side1 ?side2 A9.out).mono ?_); (case side1 => exact mC (Kd.S_reads' HO423.out).2.2); (case side2 => exact (Kd.S_reads' HO423.out).2.1); rintro e w36 ⟨rfl, hb⟩; refine ⟨_, rfl, ?_⟩; have n0_ := Aside0.mk (Kd.S_below (mS HO423.out) hb); have n1_ := Aside0.mk (blk_below (g := gb418) (o := .cells #[.int .i64 a0_0, .slice A0_1 l0_1.length c0_1] 24 (0, 0)) ((mK (BK418.out))) hb); have n2_ := Aside0.mk (below_step mG hb); clear HO423 BK418 HB; have HO423 := n0_; have BK418 := n1_; have HB := n2_; clear n0_ n1_ n2_; (try clear hb); have hcz37_0 : w36.cell? ⟨gb418, 0, none⟩ = some (.int .i64 a0_0) := (blk_cell BK418.out 0).trans rfl; have hcz37_1 : w36.cell? ⟨gb418, 1, none⟩ = some (.slice A0_1 l0_1.length c0_1) := (blk_cell BK418.out 1).trans rfl; have hfz37_0 := blk_frozen BK418.out 0; have hfz37_1 := blk_frozen BK418.out 1) | ((with_reducible refine gate_callee (f := 22) rfl ?_); refine goesL_ (some 19) rfl rfl Try.func22 (by kernel_rfl) rfl #[.agg #[.int .i64 a0_0, .slice A0_1 l0_1.length c0_1]] rfl mA ?_; (with_reducible refine (laws_toGraph.calls k a0_0 _ _ l0_1 t425 t426 _ ?side1 ?side2 A10.out).mono ?_); (case side1 => exact mC (Kd.C_below HR0_1.out HB.out)); (case side2 => exact HC0_1.out); rintro e w38 ⟨v427, rfl, ho0, hb⟩; refine ⟨_, rfl, ?_⟩; have n0_ := Aside0.mk (Kd.S_elder' (mS HO423.out) (Kd.S_base ho0) hb); have n1_ := Aside0.mk (Kd.S_lower (Kd.S_new' ho0 (Kd.S_lt (mS HO423.out))) (below_size mG)); have n2_ := Aside0.mk (blk_below (g := gb418) (o := .cells #[.int .i64 a0_0, .slice A0_1 l0_1.length c0_1] 24 (0, 0)) ((mK (BK418.out))) hb); have n3_ := Aside0.mk (below_step mG hb); clear HO423 BK418 HB; have HO423 := n0_; have HO428 := n1_; have BK418 := n2_; have HB := n3_; clear n0_ n1_ n2_ n3_; (try clear hb); (try clear ho0)) | ((with_reducible refine gate_dst (N := 7) rfl ?_); refine box_event ?hg (N := 7) ?hd (cs := #[.int .i64 0, .slice none 0 0]) (t := 28) ?hr ?_; (case hd => rfl); (case hg => rfl); (case hr => first | (go_simp; done) | (go_simp; rfl)); intro gb429 hg w39 hbox hb; have n0_ := Aside0.mk (Kd.S_below (mS HO423.out) hb); have n1_ := Aside0.mk (Kd.S_below (mS HO428.out) hb); have n2_ := Aside0.mk (blk_below (g := gb418) (o := .cells #[.int .i64 a0_0, .slice A0_1 l0_1.length c0_1] 24 (0, 0)) ((mK (BK418.out))) hb); have n3_ := Aside0.mk (below_step mG hb); have n4_ := Aside0.mk (hbox); have n5_ := Aside0.mk ((by rw [hg]; exact (below_size mG) : w.heap.size ≤ gb429)); have n6_ := Aside0.mk ((by rw [hg]; exact (below_size mG) : w.heap.size ≤ gb429)); have n7_ := Aside0.mk ((by rw [hg]; exact Nat.ne_of_lt (blk_lt (g := gb418) (o := .cells #[.int .i64 a0_0, .slice A0_1 l0_1.length c0_1] 24 (0, 0)) ((mK (BK418.out)))) : gb418 ≠ gb429)); have n8_ := Aside0.mk ((by rw [hg]; exact Nat.ne_of_gt (blk_lt (g := gb418) (o := .cells #[.int .i64 a0_0, .slice A0_1 l0_1.length c0_1] 24 (0, 0)) ((mK (BK418.out)))) : gb429 ≠ gb418)); clear HO423 HO428 BK418 HB; have HO423 := n0_; have HO428 := n1_; have BK418 := n2_; have HB := n3_; have BK429 := n4_; have GW429 := n5_; have GE429 := n6_; have NB418_429 := n7_; have NB429_418 := n8_; clear n0_ n1_ n2_ n3_ n4_ n5_ n6_ n7_ n8_; clear hb hbox hg; have hnb40 := NB429_418.out; have hnc40 := NB418_429.out; have hcz41_0 : w39.cell? ⟨gb429, 0, none⟩ = some (.int .i64 0) := (blk_cell BK429.out 0).trans rfl; have hcz41_1 : w39.cell? ⟨gb429, 1, none⟩ = some (.slice none 0 0) := (blk_cell BK429.out 1).trans rfl; have hfz41_0 := blk_frozen BK429.out 0; have hfz41_1 := blk_frozen BK429.out 1; obtain ⟨Ao42, co42, eo42⟩ := Kd.S_slice HO428.out; subst eo42) | ((with_reducible refine gate_callee (f := 75) rfl ?_); refine goesL_ (some 22) rfl rfl Try.func75 (by kernel_rfl) rfl #[.agg #[.int .i64 t425, .slice Ao42 t426.length co42], .int .i64 a1] rfl mA ?_; (with_reducible refine (impl_IsCredible.calls k t425 _ _ t426 a1 t430 _ ?side1 ?side2 A11.out).mono ?_); (case side1 => refine (Kd.S_reads' (e := 25) (base := w.heap.size) (ok := fun k_ => (True ∧ some k_ ≠ (.slice Ao35 t421.length co35 : Value).ownBlock)) (n := t426.length) (c := co42) ?_).2.2; exact (mS ((Kd.S_mono (Kd.S_far (p := ⟨gb429, 1, none⟩) (Kd.S_far (p := ⟨gb429, 0, none⟩) (Kd.S_types HO428.out BK429.out (by decide)) (fun _ hk => hk.2) (.int .i64 t425)) (fun _ hk => hk.2) (.slice Ao42 t426.length co42)) (fun _ h_ => h_.1))))); (case side2 => exact (Kd.S_reads' HO428.out).2.1); rintro e w43 ⟨rfl, hb⟩; refine ⟨_, rfl, ?_⟩; have n0_ := Aside0.mk (Kd.S_below (mS ((Kd.S_mono (Kd.S_far (p := ⟨gb429, 1, none⟩) (Kd.S_far (p := ⟨gb429, 0, none⟩) (Kd.S_types HO423.out BK429.out (by decide)) (fun _ hk => hk.2) (.int .i64 t425)) (fun _ hk => hk.2) (.slice Ao42 t426.length co42)) (fun _ h_ => h_.1)))) hb); have n1_ := Aside0.mk (Kd.S_below (mS ((Kd.S_mono (Kd.S_far (p := ⟨gb429, 1, none⟩) (Kd.S_far (p := ⟨gb429, 0, none⟩) (Kd.S_types HO428.out BK429.out (by decide)) (fun _ hk => hk.2) (.int .i64 t425)) (fun _ hk => hk.2) (.slice Ao42 t426.length co42)) (fun _ h_ => h_.1)))) hb); have n2_ := Aside0.mk (blk_below (g := gb418) (o := .cells #[.int .i64 a0_0, .slice A0_1 l0_1.length c0_1] 24 (0, 0)) (by refine pK ?_; refine blk_far ?_ NB418_429.out _; refine pK ?_; refine blk_far ?_ NB418_429.out _; refine pK ?_; exact BK418.out) hb); have n3_ := Aside0.mk (blk_below (g := gb429) (o := .cells #[.int .i64 t425, .slice Ao42 t426.length co42] 28 (0, 0)) (by refine pK ?_; refine blk_put (cs := #[.int .i64 t425, .slice none 0 0]) ?_ 1 _ rfl; refine pK ?_; refine blk_put (cs := #[.int .i64 0, .slice none 0 0]) ?_ 0 _ rfl; refine pK ?_; exact BK429.out) hb); have n4_ := Aside0.mk (below_step mG hb); clear HO423 HO428 BK418 BK429 HB; have HO423 := n0_; have HO428 := n1_; have BK418 := n2_; have BK429 := n3_; have HB := n4_; clear n0_ n1_ n2_ n3_ n4_; (try clear hb)))
  have n0_ := Aside0.mk (Kd.S_drew HO423.out)
  have n1_ := Aside0.mk (Kd.S_drew HO428.out)
  have n2_ := Aside0.mk (blk_drew BK418.out)
  have n3_ := Aside0.mk (blk_drew BK429.out)
  have n4_ := Aside0.mk (below_drew1 HB.out)
  clear HO423 HO428 BK418 BK429 HB; have HO423 := n0_; have HO428 := n1_; have BK418 := n2_; have BK429 := n3_; have HB := n4_; clear n0_ n1_ n2_ n3_ n4_
  refine start_ (n := 5) (S := fun w' => w'.cell? ⟨gb429, 0, none⟩ = some (.int .i64 t425) ∧ w'.cell? ⟨gb429, 1, none⟩ = some (.slice Ao42 t426.length co42) ∧ w'.cell? ⟨gb418, 0, none⟩ = some (.int .i64 a0_0) ∧ w'.cell? ⟨gb418, 1, none⟩ = some (.slice A0_1 l0_1.length c0_1)) (ds := []) (L_ 0 5) (by kernel_rfl) rfl rfl ⟨(blk_cell BK429.out 0).trans rfl, (blk_cell BK429.out 1).trans rfl, (blk_cell BK418.out 0).trans rfl, (blk_cell BK418.out 1).trans rfl⟩ (fun hHeld => ?_)
  generalize w43.drew = w44 at HO423 HO428 BK418 BK429 HB hHeld ⊢
  refine take_ (i := 0) (N := some 26) (v := ?_) (a' := ?_) (L_ 1 5) rfl rfl (by kernel_rfl) (fun _ _ _ h => h) (Or.inl ⟨by rfl, ?_⟩) hHeld ?_ ?_
  rotate_left
  ·
   rintro w' ⟨s0, s1, s2, s3⟩
   go_simp
   with_reducible rfl
  rotate_left
  ·
   simp only [Act.put, List.setIfInBounds_toArray, List.set_cons_zero, List.set_cons_succ, i64_w, i32_w]
   rfl
  refine take_ (i := 1) (N := some 27) (v := ?_) (a' := ?_) (L_ 2 5) rfl rfl (by kernel_rfl) (fun _ _ _ h => h) (Or.inl ⟨by rfl, ?_⟩) hHeld ?_ ?_
  rotate_left
  ·
   rintro w' ⟨s0, s1, s2, s3⟩
   go_simp
   with_reducible rfl
  rotate_left
  ·
   simp only [Act.put, List.setIfInBounds_toArray, List.set_cons_zero, List.set_cons_succ, i64_w, i32_w]
   rfl
  refine one_ (i := 2) (N := some 28) (L_ 3 5) rfl rfl (by kernel_rfl) (by decide) (fun K hK => ?_)
  refine goes_ Try.func22 (by kernel_rfl) rfl #[.agg #[.int .i64 a0_0, .slice A0_1 l0_1.length c0_1]] (by rfl) rfl rfl mA ?_
  with_reducible refine (laws_toGraph.calls k a0_0 _ _ l0_1 t431 t432 _ ?side1 ?side2 A27.out).mono ?_
  (case side1 => exact mC (Kd.C_below HR0_1.out HB.out))
  (case side2 => exact HC0_1.out)
  rintro e w45 ⟨v433, rfl, ho0, hb⟩
  refine ⟨_, rfl, ?_⟩
  have n0_ := Aside0.mk (Kd.S_elder' (mS HO423.out) (Kd.S_base ho0) hb)
  have n1_ := Aside0.mk (Kd.S_elder' (mS HO428.out) (Kd.S_base ho0) hb)
  have n2_ := Aside0.mk (Kd.S_lower (Kd.S_new' (Kd.S_new' ho0 (Kd.S_lt (mS HO423.out))) (Kd.S_lt (mS HO428.out))) (below_size mG))
  have n3_ := Aside0.mk (blk_below (g := gb418) (o := .cells #[.int .i64 a0_0, .slice A0_1 l0_1.length c0_1] 24 (0, 0)) ((mK (BK418.out))) hb)
  have n4_ := Aside0.mk (blk_below (g := gb429) (o := .cells #[.int .i64 t425, .slice Ao42 t426.length co42] 28 (0, 0)) ((mK (BK429.out))) hb)
  have n5_ := Aside0.mk (below_step mG hb)
  clear HO423 HO428 BK418 BK429 HB; have HO423 := n0_; have HO428 := n1_; have HO434 := n2_; have BK418 := n3_; have BK429 := n4_; have HB := n5_; clear n0_ n1_ n2_ n3_ n4_ n5_; (try clear hb); (try clear ho0)
  obtain ⟨Ao46, co46, eo46⟩ := Kd.S_slice HO434.out
  (first | subst eo46 | (injection eo46 with f1_ f2_ f3_; have f4_ := f1_.symm; have f5_ := f3_.symm; clear f1_ f2_ f3_; subst f4_; subst f5_))
  refine hK.out _ _ ⟨(blk_cell BK429.out 0).trans rfl, (blk_cell BK429.out 1).trans rfl, (blk_cell BK418.out 0).trans rfl, (blk_cell BK418.out 1).trans rfl⟩ (fun hHeld => ?_)
  clear hK K
  refine norm_ (a' := ?_) ?_ ?_
  rotate_left
  ·
   show Act.put _ (some 28) _ = _
   simp only [Act.put, List.setIfInBounds_toArray, List.set_cons_zero, List.set_cons_succ, i64_w, i32_w]
   rfl
  refine one_ (i := 3) (N := some 29) (L_ 4 5) rfl rfl (by kernel_rfl) (by decide) (fun K hK => ?_)
  refine goes_ Try.func26 (by kernel_rfl) rfl #[.agg #[.int .i64 t425, .slice Ao42 t426.length co42], .agg #[.int .i64 t431, .slice Ao46 t432.length co46]] (by rfl) rfl rfl mA ?_
  with_reducible refine (laws_eqGraph.calls k t425 _ _ t426 t431 _ _ t432 true _ ?side1 ?side2 ?side3 ?side4 A28.out).mono ?_
  (case side1 => exact mC (Kd.S_reads' HO428.out).2.2)
  (case side2 => exact (Kd.S_reads' HO428.out).2.1)
  (case side3 => exact mC (Kd.S_reads' HO434.out).2.2)
  (case side4 => exact (Kd.S_reads' HO434.out).2.1)
  rintro e w47 ⟨rfl, hb⟩
  refine ⟨_, rfl, ?_⟩
  have n0_ := Aside0.mk (Kd.S_below (mS HO423.out) hb)
  have n1_ := Aside0.mk (Kd.S_below (mS HO428.out) hb)
  have n2_ := Aside0.mk (Kd.S_below (mS HO434.out) hb)
  have n3_ := Aside0.mk (blk_below (g := gb418) (o := .cells #[.int .i64 a0_0, .slice A0_1 l0_1.length c0_1] 24 (0, 0)) ((mK (BK418.out))) hb)
  have n4_ := Aside0.mk (blk_below (g := gb429) (o := .cells #[.int .i64 t425, .slice Ao42 t426.length co42] 28 (0, 0)) ((mK (BK429.out))) hb)
  have n5_ := Aside0.mk (below_step mG hb)
  clear HO423 HO428 HO434 BK418 BK429 HB; have HO423 := n0_; have HO428 := n1_; have HO434 := n2_; have BK418 := n3_; have BK429 := n4_; have HB := n5_; clear n0_ n1_ n2_ n3_ n4_ n5_; (try clear hb)
  refine hK.out _ _ ⟨(blk_cell BK429.out 0).trans rfl, (blk_cell BK429.out 1).trans rfl, (blk_cell BK418.out 0).trans rfl, (blk_cell BK418.out 1).trans rfl⟩ (fun hHeld => ?_)
  clear hK K
  refine norm_ (a' := ?_) ?_ ?_
  rotate_left
  ·
   show Act.put _ (some 29) _ = _
   simp only [Act.put, List.setIfInBounds_toArray, List.set_cons_zero, List.set_cons_succ, i64_w, i32_w]
   rfl
  refine pq 4 30 (L_ 5 5) ?_
  refine done_ (by kernel_rfl) ?_
  try go_wp2
  go_ret
  exact ⟨mE, mG⟩
 replace c29 := Bool.eq_false_iff.mpr c29
 subst c29
 rw [if_neg (show ¬ (false = true) by decide)] at H
 obtain rfl := Option.some.inj H
 go_enter Try.func18, Try.ntmps18
 try go_wp2_with (first | ((with_reducible refine gate_dst (N := 2) rfl ?_); refine box_event ?hg (N := 2) ?hd (cs := #[.int .i64 a0_0, .slice A0_1 l0_1.length c0_1]) (t := 24) ?hr ?_; (case hd => rfl); (case hg => rfl); (case hr => first | (go_simp; done) | (go_simp; rfl)); intro gb418 hg w48 hbox hb; have n0_ := Aside0.mk (below_step (mB HB.out) hb); have n1_ := Aside0.mk (hbox); have n2_ := Aside0.mk ((by rw [hg]; exact (below_size (mB HB.out)) : w.heap.size ≤ gb418)); have n3_ := Aside0.mk ((by rw [hg]; exact (below_size (mB HB.out)) : w.heap.size ≤ gb418)); clear HB; have HB := n0_; have BK418 := n1_; have GW418 := n2_; have GE418 := n3_; clear n0_ n1_ n2_ n3_; clear hb hbox hg; have hcz49_0 : w48.cell? ⟨gb418, 0, none⟩ = some (.int .i64 a0_0) := (blk_cell BK418.out 0).trans rfl; have hcz49_1 : w48.cell? ⟨gb418, 1, none⟩ = some (.slice A0_1 l0_1.length c0_1) := (blk_cell BK418.out 1).trans rfl; have hfz49_0 := blk_frozen BK418.out 0; have hfz49_1 := blk_frozen BK418.out 1) | ((with_reducible refine gate_callee (f := 20) rfl ?_); refine goesL_ (some 11) rfl rfl Try.func20 (by kernel_rfl) rfl #[.agg #[.int .i64 a0_0, .slice A0_1 l0_1.length c0_1], .int .i64 1048576] rfl mA ?_; (with_reducible refine (laws_szGraph.calls k a0_0 _ _ l0_1 1048576 t419 _ ?side1 ?side2 A3.out).mono ?_); (case side1 => exact mC (Kd.C_below HR0_1.out HB.out)); (case side2 => exact HC0_1.out); rintro e w50 ⟨rfl, hb⟩; refine ⟨_, rfl, ?_⟩; have n0_ := Aside0.mk (blk_below (g := gb418) (o := .cells #[.int .i64 a0_0, .slice A0_1 l0_1.length c0_1] 24 (0, 0)) ((mK (BK418.out))) hb); have n1_ := Aside0.mk (below_step mG hb); clear BK418 HB; have BK418 := n0_; have HB := n1_; clear n0_ n1_; (try clear hb); have hcz51_0 : w50.cell? ⟨gb418, 0, none⟩ = some (.int .i64 a0_0) := (blk_cell BK418.out 0).trans rfl; have hcz51_1 : w50.cell? ⟨gb418, 1, none⟩ = some (.slice A0_1 l0_1.length c0_1) := (blk_cell BK418.out 1).trans rfl; have hfz51_0 := blk_frozen BK418.out 0; have hfz51_1 := blk_frozen BK418.out 1) | ((with_reducible refine gate_callee (f := 22) rfl ?_); refine goesL_ (some 15) rfl rfl Try.func22 (by kernel_rfl) rfl #[.agg #[.int .i64 a0_0, .slice A0_1 l0_1.length c0_1]] rfl mA ?_; (with_reducible refine (laws_toGraph.calls k a0_0 _ _ l0_1 t420 t421 _ ?side1 ?side2 A8.out).mono ?_); (case side1 => exact mC (Kd.C_below HR0_1.out HB.out)); (case side2 => exact HC0_1.out); rintro e w52 ⟨v422, rfl, ho0, hb⟩; refine ⟨_, rfl, ?_⟩; have n0_ := Aside0.mk (Kd.S_lower ho0 (below_size mG)); have n1_ := Aside0.mk (blk_below (g := gb418) (o := .cells #[.int .i64 a0_0, .slice A0_1 l0_1.length c0_1] 24 (0, 0)) ((mK (BK418.out))) hb); have n2_ := Aside0.mk (below_step mG hb); clear BK418 HB; have HO423 := n0_; have BK418 := n1_; have HB := n2_; clear n0_ n1_ n2_; (try clear hb); (try clear ho0); obtain ⟨Ao53, co53, eo53⟩ := Kd.S_slice HO423.out; subst eo53) | ((with_reducible refine gate_callee (f := 74) rfl ?_); refine goesL_ (some 17) rfl rfl Try.func74 (by kernel_rfl) rfl #[.agg #[.int .i64 t420, .slice Ao53 t421.length co53], .int .i64 a1] rfl mA ?_; (with_reducible refine (spec_IsCredible.calls k t420 _ _ t421 a1 t424 _ ?side1 ?side2 A9.out).mono ?_); (case side1 => exact mC (Kd.S_reads' HO423.out).2.2); (case side2 => exact (Kd.S_reads' HO423.out).2.1); rintro e w54 ⟨rfl, hb⟩; refine ⟨_, rfl, ?_⟩; have n0_ := Aside0.mk (Kd.S_below (mS HO423.out) hb); have n1_ := Aside0.mk (blk_below (g := gb418) (o := .cells #[.int .i64 a0_0, .slice A0_1 l0_1.length c0_1] 24 (0, 0)) ((mK (BK418.out))) hb); have n2_ := Aside0.mk (below_step mG hb); clear HO423 BK418 HB; have HO423 := n0_; have BK418 := n1_; have HB := n2_; clear n0_ n1_ n2_; (try clear hb); have hcz55_0 : w54.cell? ⟨gb418, 0, none⟩ = some (.int .i64 a0_0) := (blk_cell BK418.out 0).trans rfl; have hcz55_1 : w54.cell? ⟨gb418, 1, none⟩ = some (.slice A0_1 l0_1.length c0_1) := (blk_cell BK418.out 1).trans rfl; have hfz55_0 := blk_frozen BK418.out 0; have hfz55_1 := blk_frozen BK418.out 1) | ((with_reducible refine gate_callee (f := 22) rfl ?_); refine goesL_ (some 19) rfl rfl Try.func22 (by kernel_rfl) rfl #[.agg #[.int .i64 a0_0, .slice A0_1 l0_1.length c0_1]] rfl mA ?_; (with_reducible refine (laws_toGraph.calls k a0_0 _ _ l0_1 t425 t426 _ ?side1 ?side2 A10.out).mono ?_); (case side1 => exact mC (Kd.C_below HR0_1.out HB.out)); (case side2 => exact HC0_1.out); rintro e w56 ⟨v427, rfl, ho0, hb⟩; refine ⟨_, rfl, ?_⟩; have n0_ := Aside0.mk (Kd.S_elder' (mS HO423.out) (Kd.S_base ho0) hb); have n1_ := Aside0.mk (Kd.S_lower (Kd.S_new' ho0 (Kd.S_lt (mS HO423.out))) (below_size mG)); have n2_ := Aside0.mk (blk_below (g := gb418) (o := .cells #[.int .i64 a0_0, .slice A0_1 l0_1.length c0_1] 24 (0, 0)) ((mK (BK418.out))) hb); have n3_ := Aside0.mk (below_step mG hb); clear HO423 BK418 HB; have HO423 := n0_; have HO428 := n1_; have BK418 := n2_; have HB := n3_; clear n0_ n1_ n2_ n3_; (try clear hb); (try clear ho0)) | ((with_reducible refine gate_dst (N := 7) rfl ?_); refine box_event ?hg (N := 7) ?hd (cs := #[.int .i64 0, .slice none 0 0]) (t := 28) ?hr ?_; (case hd => rfl); (case hg => rfl); (case hr => first | (go_simp; done) | (go_simp; rfl)); intro gb429 hg w57 hbox hb; have n0_ := Aside0.mk (Kd.S_below (mS HO423.out) hb); have n1_ := Aside0.mk (Kd.S_below (mS HO428.out) hb); have n2_ := Aside0.mk (blk_below (g := gb418) (o := .cells #[.int .i64 a0_0, .slice A0_1 l0_1.length c0_1] 24 (0, 0)) ((mK (BK418.out))) hb); have n3_ := Aside0.mk (below_step mG hb); have n4_ := Aside0.mk (hbox); have n5_ := Aside0.mk ((by rw [hg]; exact (below_size mG) : w.heap.size ≤ gb429)); have n6_ := Aside0.mk ((by rw [hg]; exact (below_size mG) : w.heap.size ≤ gb429)); have n7_ := Aside0.mk ((by rw [hg]; exact Nat.ne_of_lt (blk_lt (g := gb418) (o := .cells #[.int .i64 a0_0, .slice A0_1 l0_1.length c0_1] 24 (0, 0)) ((mK (BK418.out)))) : gb418 ≠ gb429)); have n8_ := Aside0.mk ((by rw [hg]; exact Nat.ne_of_gt (blk_lt (g := gb418) (o := .cells #[.int .i64 a0_0, .slice A0_1 l0_1.length c0_1] 24 (0, 0)) ((mK (BK418.out)))) : gb429 ≠ gb418)); clear HO423 HO428 BK418 HB; have HO423 := n0_; have HO428 := n1_; have BK418 := n2_; have HB := n3_; have BK429 := n4_; have GW429 := n5_; have GE429 := n6_; have NB418_429 := n7_; have NB429_418 := n8_; clear n0_ n1_ n2_ n3_ n4_ n5_ n6_ n7_ n8_; clear hb hbox hg; have hnb58 := NB429_418.out; have hnc58 := NB418_429.out; have hcz59_0 : w57.cell? ⟨gb429, 0, none⟩ = some (.int .i64 0) := (blk_cell BK429.out 0).trans rfl; have hcz59_1 : w57.cell? ⟨gb429, 1, none⟩ = some (.slice none 0 0) := (blk_cell BK429.out 1).trans rfl; have hfz59_0 := blk_frozen BK429.out 0; have hfz59_1 := blk_frozen BK429.out 1; obtain ⟨Ao60, co60, eo60⟩ := Kd.S_slice HO428.out; subst eo60) | ((with_reducible refine gate_callee (f := 75) rfl ?_); refine goesL_ (some 22) rfl rfl Try.func75 (by kernel_rfl) rfl #[.agg #[.int .i64 t425, .slice Ao60 t426.length co60], .int .i64 a1] rfl mA ?_; (with_reducible refine (impl_IsCredible.calls k t425 _ _ t426 a1 t430 _ ?side1 ?side2 A11.out).mono ?_); (case side1 => refine (Kd.S_reads' (e := 25) (base := w.heap.size) (ok := fun k_ => (True ∧ some k_ ≠ (.slice Ao53 t421.length co53 : Value).ownBlock)) (n := t426.length) (c := co60) ?_).2.2; exact (mS ((Kd.S_mono (Kd.S_far (p := ⟨gb429, 1, none⟩) (Kd.S_far (p := ⟨gb429, 0, none⟩) (Kd.S_types HO428.out BK429.out (by decide)) (fun _ hk => hk.2) (.int .i64 t425)) (fun _ hk => hk.2) (.slice Ao60 t426.length co60)) (fun _ h_ => h_.1))))); (case side2 => exact (Kd.S_reads' HO428.out).2.1); rintro e w61 ⟨rfl, hb⟩; refine ⟨_, rfl, ?_⟩; have n0_ := Aside0.mk (Kd.S_below (mS ((Kd.S_mono (Kd.S_far (p := ⟨gb429, 1, none⟩) (Kd.S_far (p := ⟨gb429, 0, none⟩) (Kd.S_types HO423.out BK429.out (by decide)) (fun _ hk => hk.2) (.int .i64 t425)) (fun _ hk => hk.2) (.slice Ao60 t426.length co60)) (fun _ h_ => h_.1)))) hb); have n1_ := Aside0.mk (Kd.S_below (mS ((Kd.S_mono (Kd.S_far (p := ⟨gb429, 1, none⟩) (Kd.S_far (p := ⟨gb429, 0, none⟩) (Kd.S_types HO428.out BK429.out (by decide)) (fun _ hk => hk.2) (.int .i64 t425)) (fun _ hk => hk.2) (.slice Ao60 t426.length co60)) (fun _ h_ => h_.1)))) hb); have n2_ := Aside0.mk (blk_below (g := gb418) (o := .cells #[.int .i64 a0_0, .slice A0_1 l0_1.length c0_1] 24 (0, 0)) (by refine pK ?_; refine blk_far ?_ NB418_429.out _; refine pK ?_; refine blk_far ?_ NB418_429.out _; refine pK ?_; exact BK418.out) hb); have n3_ := Aside0.mk (blk_below (g := gb429) (o := .cells #[.int .i64 t425, .slice Ao60 t426.length co60] 28 (0, 0)) (by refine pK ?_; refine blk_put (cs := #[.int .i64 t425, .slice none 0 0]) ?_ 1 _ rfl; refine pK ?_; refine blk_put (cs := #[.int .i64 0, .slice none 0 0]) ?_ 0 _ rfl; refine pK ?_; exact BK429.out) hb); have n4_ := Aside0.mk (below_step mG hb); clear HO423 HO428 BK418 BK429 HB; have HO423 := n0_; have HO428 := n1_; have BK418 := n2_; have BK429 := n3_; have HB := n4_; clear n0_ n1_ n2_ n3_ n4_; (try clear hb)))
 have n0_ := Aside0.mk (Kd.S_drew HO423.out)
 have n1_ := Aside0.mk (Kd.S_drew HO428.out)
 have n2_ := Aside0.mk (blk_drew BK418.out)
 have n3_ := Aside0.mk (blk_drew BK429.out)
 have n4_ := Aside0.mk (below_drew1 HB.out)
 clear HO423 HO428 BK418 BK429 HB; have HO423 := n0_; have HO428 := n1_; have BK418 := n2_; have BK429 := n3_; have HB := n4_; clear n0_ n1_ n2_ n3_ n4_
 refine start_ (n := 5) (S := fun w' => w'.cell? ⟨gb429, 0, none⟩ = some (.int .i64 t425) ∧ w'.cell? ⟨gb429, 1, none⟩ = some (.slice Ao60 t426.length co60) ∧ w'.cell? ⟨gb418, 0, none⟩ = some (.int .i64 a0_0) ∧ w'.cell? ⟨gb418, 1, none⟩ = some (.slice A0_1 l0_1.length c0_1)) (ds := []) (L_ 0 5) (by kernel_rfl) rfl rfl ⟨(blk_cell BK429.out 0).trans rfl, (blk_cell BK429.out 1).trans rfl, (blk_cell BK418.out 0).trans rfl, (blk_cell BK418.out 1).trans rfl⟩ (fun hHeld => ?_)
 generalize w61.drew = w62 at HO423 HO428 BK418 BK429 HB hHeld ⊢
 refine take_ (i := 0) (N := some 26) (v := ?_) (a' := ?_) (L_ 1 5) rfl rfl (by kernel_rfl) (fun _ _ _ h => h) (Or.inl ⟨by rfl, ?_⟩) hHeld ?_ ?_
 rotate_left
 ·
  rintro w' ⟨s0, s1, s2, s3⟩
  go_simp
  with_reducible rfl
 rotate_left
 ·
  simp only [Act.put, List.setIfInBounds_toArray, List.set_cons_zero, List.set_cons_succ, i64_w, i32_w]
  rfl
 refine take_ (i := 1) (N := some 27) (v := ?_) (a' := ?_) (L_ 2 5) rfl rfl (by kernel_rfl) (fun _ _ _ h => h) (Or.inl ⟨by rfl, ?_⟩) hHeld ?_ ?_
 rotate_left
 ·
  rintro w' ⟨s0, s1, s2, s3⟩
  go_simp
  with_reducible rfl
 rotate_left
 ·
  simp only [Act.put, List.setIfInBounds_toArray, List.set_cons_zero, List.set_cons_succ, i64_w, i32_w]
  rfl
 refine one_ (i := 2) (N := some 28) (L_ 3 5) rfl rfl (by kernel_rfl) (by decide) (fun K hK => ?_)
 refine goes_ Try.func22 (by kernel_rfl) rfl #[.agg #[.int .i64 a0_0, .slice A0_1 l0_1.length c0_1]] (by rfl) rfl rfl mA ?_
 with_reducible refine (laws_toGraph.calls k a0_0 _ _ l0_1 t431 t432 _ ?side1 ?side2 A27.out).mono ?_
 (case side1 => exact mC (Kd.C_below HR0_1.out HB.out))
 (case side2 => exact HC0_1.out)
 rintro e w63 ⟨v433, rfl, ho0, hb⟩
 refine ⟨_, rfl, ?_⟩
 have n0_ := Aside0.mk (Kd.S_elder' (mS HO423.out) (Kd.S_base ho0) hb)
 have n1_ := Aside0.mk (Kd.S_elder' (mS HO428.out) (Kd.S_base ho0) hb)
 have n2_ := Aside0.mk (Kd.S_lower (Kd.S_new' (Kd.S_new' ho0 (Kd.S_lt (mS HO423.out))) (Kd.S_lt (mS HO428.out))) (below_size mG))
 have n3_ := Aside0.mk (blk_below (g := gb418) (o := .cells #[.int .i64 a0_0, .slice A0_1 l0_1.length c0_1] 24 (0, 0)) ((mK (BK418.out))) hb)
 have n4_ := Aside0.mk (blk_below (g := gb429) (o := .cells #[.int .i64 t425, .slice Ao60 t426.length co60] 28 (0, 0)) ((mK (BK429.out))) hb)
 have n5_ := Aside0.mk (below_step mG hb)
 clear HO423 HO428 BK418 BK429 HB; have HO423 := n0_; have HO428 := n1_; have HO434 := n2_; have BK418 := n3_; have BK429 := n4_; have HB := n5_; clear n0_ n1_ n2_ n3_ n4_ n5_; (try clear hb); (try clear ho0)
 obtain ⟨Ao64, co64, eo64⟩ := Kd.S_slice HO434.out
 (first | subst eo64 | (injection eo64 with f1_ f2_ f3_; have f4_ := f1_.symm; have f5_ := f3_.symm; clear f1_ f2_ f3_; subst f4_; subst f5_))
 refine hK.out _ _ ⟨(blk_cell BK429.out 0).trans rfl, (blk_cell BK429.out 1).trans rfl, (blk_cell BK418.out 0).trans rfl, (blk_cell BK418.out 1).trans rfl⟩ (fun hHeld => ?_)
 clear hK K
 refine norm_ (a' := ?_) ?_ ?_
 rotate_left
 ·
  show Act.put _ (some 28) _ = _
  simp only [Act.put, List.setIfInBounds_toArray, List.set_cons_zero, List.set_cons_succ, i64_w, i32_w]
  rfl
 refine one_ (i := 3) (N := some 29) (L_ 4 5) rfl rfl (by kernel_rfl) (by decide) (fun K hK => ?_)
 refine goes_ Try.func26 (by kernel_rfl) rfl #[.agg #[.int .i64 t425, .slice Ao60 t426.length co60], .agg #[.int .i64 t431, .slice Ao64 t432.length co64]] (by rfl) rfl rfl mA ?_
 with_reducible refine (laws_eqGraph.calls k t425 _ _ t426 t431 _ _ t432 false _ ?side1 ?side2 ?side3 ?side4 A28.out).mono ?_
 (case side1 => exact mC (Kd.S_reads' HO428.out).2.2)
 (case side2 => exact (Kd.S_reads' HO428.out).2.1)
 (case side3 => exact mC (Kd.S_reads' HO434.out).2.2)
 (case side4 => exact (Kd.S_reads' HO434.out).2.1)
 rintro e w65 ⟨rfl, hb⟩
 refine ⟨_, rfl, ?_⟩
 have n0_ := Aside0.mk (Kd.S_below (mS HO423.out) hb)
 have n1_ := Aside0.mk (Kd.S_below (mS HO428.out) hb)
 have n2_ := Aside0.mk (Kd.S_below (mS HO434.out) hb)
 have n3_ := Aside0.mk (blk_below (g := gb418) (o := .cells #[.int .i64 a0_0, .slice A0_1 l0_1.length c0_1] 24 (0, 0)) ((mK (BK418.out))) hb)
 have n4_ := Aside0.mk (blk_below (g := gb429) (o := .cells #[.int .i64 t425, .slice Ao60 t426.length co60] 28 (0, 0)) ((mK (BK429.out))) hb)
 have n5_ := Aside0.mk (below_step mG hb)
 clear HO423 HO428 HO434 BK418 BK429 HB; have HO423 := n0_; have HO428 := n1_; have HO434 := n2_; have BK418 := n3_; have BK429 := n4_; have HB := n5_; clear n0_ n1_ n2_ n3_ n4_ n5_; (try clear hb)
 refine hK.out _ _ ⟨(blk_cell BK429.out 0).trans rfl, (blk_cell BK429.out 1).trans rfl, (blk_cell BK418.out 0).trans rfl, (blk_cell BK418.out 1).trans rfl⟩ (fun hHeld => ?_)
 clear hK K
 refine norm_ (a' := ?_) ?_ ?_
 rotate_left
 ·
  show Act.put _ (some 29) _ = _
  simp only [Act.put, List.setIfInBounds_toArray, List.set_cons_zero, List.set_cons_succ, i64_w, i32_w]
  rfl
 refine pq 4 30 (L_ 5 5) ?_
 refine done_ (by kernel_rfl) ?_
 try go_wp2
 go_ret
 exact ⟨mE, mG⟩
end Go.Proofs.Ytelkfhlnejlheaa.GFnExactIsCredible
