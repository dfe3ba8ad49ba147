-- Written by gprint.py, a program of this session, with the printer of the kit as its library. Lean checks it.
import Derived.Test.YtpdpampmbdgofaaGFnExactAddAttackx0
import Derived.Test.YtpdpampmbdgofaaGFnExactAddAttackx1
namespace Go.Proofs.Ytpdpampmbdgofaa.GFnExactAddAttack
open Go.RowKit Go.Proofs.YtpdpampmbdgofaaW.PrintWords Go.Proofs.YtpdpampmbdgofaaW.PrintLast Go.Proofs.YtpdpampmbdgofaaW.PrintMore
attribute [local go_sem] max2_int min2_int max_two min_two max_three min_three max_four min_four   -- for this text's walks alone
set_option linter.unusedVariables false
set_option linter.unusedSimpArgs false


/-! ### laws_markIntSS: function 35 -/
def laws_markIntSS.l0 : Nat → List (List Int) → Int → Int → Option (Int × List (List Int))
 | 0, _, _, _ => none
 | k + 1, x0, x1, x5 => if x5 < (x0.length : Int) then (if 0 ≤ x5 then ((laws_markIntS.f k (x0.getD x5.toNat []) x1).bind fun bt => (laws_markIntSS.l0 k (x0.set x5.toNat bt.2) bt.1 (wrap64 (x5 + 1)))) else (none)) else (some (x1, x0))
def laws_markIntSS.f (k : Nat) (l0 : List (List Int)) (a1 : Int) : Option (Int × List (List Int)) := laws_markIntSS.l0 k l0 a1 0
theorem laws_markIntSS.mono_l : ∀ k, (∀ y0 y1 y2, LeO (laws_markIntSS.l0 k y0 y1 y2) (laws_markIntSS.l0 (k + 1) y0 y1 y2))
 | 0 => fun _ _ _ r h => by simp [laws_markIntSS.l0] at h
 | k + 1 => by
  have ih0 := laws_markIntSS.mono_l k
  intro y0 y1 y2
  unfold laws_markIntSS.l0
  refine LeO.ite (LeO.ite (LeO.bind (laws_markIntS.mono _ _ _) (fun _ => ih0 _ _ _)) (LeO.none _)) (LeO.refl _)
theorem laws_markIntSS.mono : ∀ a0 a1 k, LeO (laws_markIntSS.f k a0 a1) (laws_markIntSS.f (k + 1) a0 a1) := fun _ _ k => laws_markIntSS.mono_l k _ _ _
set_option maxHeartbeats 4000000 in
set_option maxRecDepth 100000 in
theorem laws_markIntSS.calls (k : Nat) (P0_ : Nat → Prop) (u9000_ : Value) (l0 : List (List Int)) (a1 : Int) (r1 : Int) (r2 : List (List Int)) (w0 w : World) (hB : Below w0.heap.size w0 w) (ho0 : Kd.S (Kd.slice 3 (Kd.int .i64)) 25 w w0.heap.size P0_ u9000_ l0) (h : laws_markIntSS.f k l0 a1 = some (r1, r2)) :
  Calls Try.prog 35 #[u9000_, .int .i64 a1] w fun e w' => e = .returned (.int .i64 r1) ∧ Kd.S (Kd.slice 3 (Kd.int .i64)) 25 w' w0.heap.size (fun k_ => (P0_ k_ ∨ w.heap.size ≤ k_)) u9000_ r2 ∧ Below w0.heap.size w0 w' ∧ Kept w w' (fun k_ => P0_ k_) := by
 have HO := Aside0.mk (show Kd.S (Kd.slice 3 (Kd.int .i64)) 25 w w0.heap.size (fun k_ => (P0_ k_ ∨ w.heap.size ≤ k_)) u9000_ l0 from Kd.S_mono ho0 (fun k_ hk => (.inl hk)))
 have HK := Aside0.mk (Kept.refl w (fun k_ => P0_ k_))
 have HB := Aside0.mk hB
 clear hB ho0
 have H' := Aside0.mk (show (laws_markIntSS.l0 k l0 a1 0) = some (r1, r2) from h)
 clear h
 go_enter Try.func35, Try.ntmps35
 go_wp2
 go_loopg [1, 5] k (fun kq v1 v5 w' => ∃ (x0_1 : List (List Int)) (x1_1 : Int) (x5_1 : Int), v1 = .int .i64 x1_1 ∧ v5 = .int .i64 x5_1 ∧ Aside0 (laws_markIntSS.l0 kq x0_1 x1_1 x5_1 = some (r1, r2)) ∧ Aside0 (kq ≤ k) ∧ Aside0 (Kd.S (Kd.slice 3 (Kd.int .i64)) 25 w' w0.heap.size (fun k_ => (P0_ k_ ∨ w.heap.size ≤ k_)) u9000_ x0_1) ∧ Aside0 (Kept w w' (fun k_ => P0_ k_)) ∧ Aside0 (Below w0.heap.size w0 w'))
 case atStart => exact ⟨l0, a1, 0, (by first | rfl | (simp; done)), (by first | rfl | (simp; done)), H', ⟨Nat.le_refl _⟩, HO, HK, HB⟩
 case round =>
  clear H' HO HK HB
  obtain ⟨x0_1, x1_1, x5_1, rfl, rfl, HA, HK1, HO, HK, HB⟩ := hrel
  cases gk with
  | zero => exact absurd HA.out (by simp [laws_markIntSS.l0])
  | succ k1 =>
   have H := HA.out
   clear HA
   simp only [laws_markIntSS.l0] at H
   by_cases c3 : x5_1 < (x0_1.length : Int)
   rotate_left
   ·
    rw [if_neg c3] at H
    simp only [Option.some.injEq, Prod.mk.injEq] at H
    obtain ⟨rfl, rfl⟩ := H
    have c3b : decide (x5_1 < (x0_1.length : Int)) = false := decide_eq_false c3
    clear c3
    obtain ⟨Ao, co, eo⟩ := Kd.S_slice HO.out
    subst eo
    go_wp2
    go_ret
    exact ⟨by first | rfl | (simp [*]; done), HO.out, HB.out, HK.out⟩
   rw [if_pos c3] at H
   by_cases c4 : 0 ≤ x5_1
   rotate_left
   ·
    rw [if_neg c4] at H; cases H
   rw [if_pos c4] at H
   obtain ⟨bt, e1, H⟩ := Option.bind_eq_some_iff.mp H
   have H2 := Aside0.mk H
   clear H
   obtain ⟨go, co, eo, gb, gl, cl, HG⟩ := Kd.S_form HO.out (by omega)
   subst eo
   obtain ⟨oki, c, hcl, hM, hcc, hoki, hH⟩ := Kd.S_lend HO.out [] x5_1 c4 (by have := (Kd.S_reads' HO.out).1; omega)
   generalize hrow : x0_1.getD x5_1.toNat [] = row at hM e1
   have E1 := Aside0.mk e1
   clear e1 hrow
   obtain ⟨v, rfl, hR⟩ := hM
   obtain ⟨Av, cv, rfl⟩ := Kd.R_slice hR
   have hx0 := hcc 0 _ rfl
   simp only [show ((Kd.slice 3 (Kd.int .i64))).sz = 1 from rfl, Nat.mul_one, Nat.add_zero] at hx0
   have HR := Aside0.mk hR
   have HH := Aside0.mk hH
   have HI := Aside0.mk hoki
   clear hR hH hoki hcc hcl gb gl HG cl HO
   have c3b : decide (x5_1 < (x0_1.length : Int)) = true := decide_eq_true c3
   have c3c := eq_true c3
   have c4c := eq_true c4
   clear c3 c4
   go_wp2_with (first | (go_at_call 20; (with_reducible refine (laws_markIntS.calls k1 oki _ row x1_1 bt.1 bt.2 w0 _ HB.out HR.out E1.out).mono ?_); rintro e w2 ⟨rfl, hR2, hB2, hK2⟩; have HR2 := Aside0.mk hR2; have HB2 := Aside0.mk hB2; have HK2 := Aside0.mk hK2; clear hR2 hB2 hK2))
   go_roundg k1
   case measure => have := HK1.out; omega
   case rel => exact ⟨x0_1.set x5_1.toNat bt.2, bt.1, (wrap64 (x5_1 + 1)), mF, mF, H2, ⟨by have := HK1.out; omega⟩, ⟨Kd.H_back (Kd.H_kept HH.out HK2.out (fun k_ _ hn => hn)) (x' := bt.2) ⟨_, rfl, Kd.R_tight rfl HR2.out⟩ (fun k_ hk => HR.out.1 k_ hk.symm)⟩, ⟨HK.out.then_ HK2.out (fun k_ h2 => (HI.out k_ h2).1)⟩, HB2⟩

/-! ### laws_markGraph: function 19 -/
def laws_markGraph.f (k : Nat) (a0_0 : Int) (l0_1 : List (List Int)) (a1 : Int) : Option Int := (laws_markIntSS.f k l0_1 a1).bind fun bt => some bt.1
theorem laws_markGraph.mono : ∀ a0 a1 a2 k, LeO (laws_markGraph.f k a0 a1 a2) (laws_markGraph.f (k + 1) a0 a1 a2) := fun _ _ _ k => LeO.bind (laws_markIntSS.mono _ _ k) (fun _ => LeO.refl _)
set_option maxHeartbeats 4000000 in
set_option maxRecDepth 100000 in
theorem laws_markGraph.calls (k : Nat) (a0_0 : Int) (P0_ : Nat → Prop) (u9000_ : Value) (l0_1 : List (List Int)) (a1 : Int) (r : Int) (w0 w : World) (hB : Below w0.heap.size w0 w) (ho0 : Kd.S (Kd.slice 3 (Kd.int .i64)) 25 w w0.heap.size P0_ u9000_ l0_1) (h : laws_markGraph.f k a0_0 l0_1 a1 = some r) :
  Calls Try.prog 19 #[.agg #[.int .i64 a0_0, u9000_], .int .i64 a1] w fun e w' => e = .returned (.int .i64 r) ∧ Below w0.heap.size w0 w' ∧ Kept w w' (fun k_ => P0_ k_) := by
 obtain ⟨⟨r1, r2⟩, e1, e2⟩ := Option.bind_eq_some_iff.mp (show (laws_markIntSS.f k l0_1 a1).bind (fun bt => some bt.1) = some r from h)
 obtain rfl := Option.some.inj e2
 clear h e2
 obtain ⟨A0, c0, rfl⟩ := Kd.S_slice ho0
 have hu28 := Try.underlying28
 have E1 := Aside0.mk e1
 have HO := Aside0.mk ho0
 have HB := Aside0.mk hB
 have HK := Aside0.mk (Kept.refl w (fun k_ => P0_ k_))
 clear e1 ho0 hB
 go_enter Try.func19, Try.ntmps19
 go_wp2_with (first | ((with_reducible refine gate_dst (N := 2) rfl ?_); refine box_event ?hg (N := 2) ?hd (cs := #[.int .i64 a0_0, .slice A0 l0_1.length c0]) (t := 28) ?hr ?_; (case hd => rfl); (case hg => rfl); (case hr => first | (go_simp; done) | (go_simp; rfl)); intro gb hg w5 hbox hb; have BK := Aside0.mk hbox; have HO2 := Aside0.mk (Kd.S_below HO.out hb); have HB2 := Aside0.mk (below_step HB.out hb); have HK2 := Aside0.mk (HK.out.below hb); have hcz0 := (blk_cell BK.out 0).trans (show _ = some (Value.int .i64 a0_0) from rfl); have hcz1 := (blk_cell BK.out 1).trans (show _ = some (Value.slice A0 l0_1.length c0) from rfl); have hfz0 := blk_frozen BK.out 0; have hfz1 := blk_frozen BK.out 1; clear HO HB HK hb hbox hg) | (go_at_call 35; (with_reducible refine (laws_markIntSS.calls k P0_ _ l0_1 a1 r1 r2 w0 _ HB2.out HO2.out E1.out).mono ?_); rintro e w2 ⟨rfl, hR2, hB2, hK2⟩; have HB3 := Aside0.mk hB2; have HK3 := Aside0.mk (Kept.then_ HK2.out hK2 (fun k_ h2 => .inl h2)); clear hR2 hB2 hK2))
 go_ret
 exact ⟨rfl, HB3.out, HK3.out⟩
set_option maxHeartbeats 4000000 in
set_option maxRecDepth 100000 in
theorem laws_markGraph.callsS (k : Nat) (a0_0 : Int) (P0_ : Nat → Prop) (u9000_ : Value) (l0_1 : List (List Int)) (a1 : Int) (r1 : Int) (r2 : List (List Int)) (w0 w : World) (hB : Below w0.heap.size w0 w) (ho0 : Kd.S (Kd.slice 3 (Kd.int .i64)) 25 w w0.heap.size P0_ u9000_ l0_1) (e1 : laws_markIntSS.f k l0_1 a1 = some (r1, r2)) :
  Calls Try.prog 19 #[.agg #[.int .i64 a0_0, u9000_], .int .i64 a1] w fun e w' => e = .returned (.int .i64 r1) ∧ Kd.S (Kd.slice 3 (Kd.int .i64)) 25 w' w0.heap.size (fun k_ => P0_ k_ ∨ w.heap.size ≤ k_) u9000_ r2 ∧ Below w0.heap.size w0 w' ∧ Kept w w' (fun k_ => P0_ k_) := by
 obtain ⟨A0, c0, rfl⟩ := Kd.S_slice ho0
 have hu28 := Try.underlying28
 have E1 := Aside0.mk e1
 have HO := Aside0.mk ho0
 have HB := Aside0.mk hB
 have HK := Aside0.mk (Kept.refl w (fun k_ => P0_ k_))
 clear e1 ho0 hB
 go_enter Try.func19, Try.ntmps19
 go_wp2_with (first | ((with_reducible refine gate_dst (N := 2) rfl ?_); refine box_event ?hg (N := 2) ?hd (cs := #[.int .i64 a0_0, .slice A0 l0_1.length c0]) (t := 28) ?hr ?_; (case hd => rfl); (case hg => rfl); (case hr => first | (go_simp; done) | (go_simp; rfl)); intro gb hg w5 hbox hb; have BK := Aside0.mk hbox; have HO2 := Aside0.mk (Kd.S_below HO.out hb); have HB2 := Aside0.mk (below_step HB.out hb); have HK2 := Aside0.mk (HK.out.below hb); have hcz0 := (blk_cell BK.out 0).trans (show _ = some (Value.int .i64 a0_0) from rfl); have hcz1 := (blk_cell BK.out 1).trans (show _ = some (Value.slice A0 l0_1.length c0) from rfl); have hfz0 := blk_frozen BK.out 0; have hfz1 := blk_frozen BK.out 1; clear HO HB HK hb hbox hg) | (go_at_call 35; (with_reducible refine (laws_markIntSS.calls k P0_ _ l0_1 a1 r1 r2 w0 _ HB2.out HO2.out E1.out).mono ?_); rintro e w2 ⟨rfl, hR2, hB2, hK2⟩; have HR3 := Aside0.mk (Kd.S_mono (ok' := fun k_ => P0_ k_ ∨ w.heap.size ≤ k_) hR2 (fun k_ h_ => h_.imp id (fun h2_ => Nat.le_trans HK2.out.1 h2_))); have HB3 := Aside0.mk hB2; have HK3 := Aside0.mk (Kept.then_ HK2.out hK2 (fun k_ h2 => .inl h2)); clear hR2 hB2 hK2))
 go_ret
 exact ⟨rfl, HR3.out, HB3.out, HK3.out⟩

/-! ### spec_l1In: function 29 -/
def spec_l1In.f (a0 : Int) (a1 : Int) (a2 : Int) : Option (Bool) := if a0 ≥ a1 then (some (decide (a0 ≤ a2))) else (some false)
set_option maxHeartbeats 8000000 in
set_option maxRecDepth 100000 in
theorem spec_l1In.calls (a0 : Int) (a1 : Int) (a2 : Int) (r : Bool) (w : World) (h : spec_l1In.f a0 a1 a2 = some r) :
  Calls Try.prog 29 #[.int .i64 a0, .int .i64 a1, .int .i64 a2] w fun e w' => e = .returned (.bool r) ∧ Drawn0 w w' := by
 have H : (if a0 ≥ a1 then (some (decide (a0 ≤ a2))) else (some false)) = some r := h
 clear h
 by_cases c4 : a0 ≥ a1
 ·
  rw [if_pos c4] at H
  have c4b0 : decide (a1 ≤ a0) = true := decide_eq_true c4
  clear c4
  obtain rfl := Option.some.inj H
  go_enter Try.func29, Try.ntmps29
  go_wp2
  go_ret
  exact ⟨mF, by repeat (first | exact Drawn0.refl _ | apply Drawn0.step)⟩
 rw [if_neg c4] at H
 have c4b0 : decide (a1 ≤ a0) = false := decide_eq_false c4
 clear c4
 obtain rfl := Option.some.inj H
 go_enter Try.func29, Try.ntmps29
 go_wp2
 go_ret
 exact ⟨mF, by repeat (first | exact Drawn0.refl _ | apply Drawn0.step)⟩
/-! ### spec_IsGraph: function 28 -/
mutual
def spec_IsGraph.l0 : Nat → Int → Int → List (List Int) → Option (Bool)
 | 0, _, _, _ => none
 | k + 1, x3, x134000, x134001 => if x3 < (x134001.length : Int) then (if 0 ≤ x3 then (if ((rd_L1 x134001 x3).length : Int) = 2 then (if 0 < ((rd_L1 x134001 x3).length : Int) then ((spec_l1In.f (rd (rd_L1 x134001 x3) 0) 0 (wrap64 (x134000 - 1))).bind fun t137 => (if t137 = true then (if 1 < ((rd_L1 x134001 x3).length : Int) then ((spec_l1In.f (rd (rd_L1 x134001 x3) 1) 0 (wrap64 (x134000 - 1))).bind fun t139 => (spec_IsGraph.j1 k x3 (rd_L1 x134001 x3) (!t139) x134000 x134001)) else (none)) else (spec_IsGraph.j1 k x3 (rd_L1 x134001 x3) true x134000 x134001))) else (none)) else (spec_IsGraph.j1 k x3 (rd_L1 x134001 x3) true x134000 x134001)) else (none)) else ((spec_l1In.f x134000 0 10).bind fun t134 => (some t134))
def spec_IsGraph.j1 : Nat → Int → List Int → Bool → Int → List (List Int) → Option (Bool)
 | 0, _, _, _, _, _ => none
 | k + 1, x3, x4, x40, x134000, x134001 => if x40 = true then (some false) else (if x3 > 0 then (if 0 ≤ (wrap64 (x3 - 1)) then (if (wrap64 (x3 - 1)) < (x134001.length : Int) then (if 0 < ((rd_L1 x134001 (wrap64 (x3 - 1))).length : Int) then (if 0 < (x4.length : Int) then (if (rd (rd_L1 x134001 (wrap64 (x3 - 1))) 0) > (rd x4 0) then (some false) else (if (rd (rd_L1 x134001 (wrap64 (x3 - 1))) 0) = (rd x4 0) then (if 1 < ((rd_L1 x134001 (wrap64 (x3 - 1))).length : Int) then (if 1 < (x4.length : Int) then (if (rd (rd_L1 x134001 (wrap64 (x3 - 1))) 1) ≥ (rd x4 1) then (some false) else (spec_IsGraph.l0 k (wrap64 (x3 + 1)) x134000 x134001)) else (none)) else (none)) else (spec_IsGraph.l0 k (wrap64 (x3 + 1)) x134000 x134001))) else (none)) else (none)) else (none)) else (none)) else (spec_IsGraph.l0 k (wrap64 (x3 + 1)) x134000 x134001))
end
def spec_IsGraph.f (k : Nat) (a0_0 : Int) (l0_1 : List (List Int)) : Option (Bool) := spec_IsGraph.l0 k 0 a0_0 l0_1
theorem spec_IsGraph.mono_l : ∀ k, (∀ y0 y1 y2, LeO (spec_IsGraph.l0 k y0 y1 y2) (spec_IsGraph.l0 (k + 1) y0 y1 y2)) ∧ (∀ y0 y1 y2 y3 y4, LeO (spec_IsGraph.j1 k y0 y1 y2 y3 y4) (spec_IsGraph.j1 (k + 1) y0 y1 y2 y3 y4))
 | 0 => ⟨fun _ _ _ r h => by simp [spec_IsGraph.l0] at h, fun _ _ _ _ _ r h => by simp [spec_IsGraph.j1] at h⟩
 | k + 1 => by
  obtain ⟨ih0, ih1⟩ := spec_IsGraph.mono_l k
  refine ⟨?_, ?_⟩
  ·
   intro y0 y1 y2
   unfold spec_IsGraph.l0
   repeat' with_reducible first | exact ih0 _ _ _ | exact ih1 _ _ _ _ _ | exact LeO.refl _ | exact LeO.none _ | refine LeO.ite ?_ ?_ | refine LeO.bind ?_ (fun _ => ?_)
  ·
   intro y0 y1 y2 y3 y4
   unfold spec_IsGraph.j1
   repeat' with_reducible first | exact ih0 _ _ _ | exact ih1 _ _ _ _ _ | exact LeO.refl _ | exact LeO.none _ | refine LeO.ite ?_ ?_ | refine LeO.bind ?_ (fun _ => ?_)
theorem spec_IsGraph.mono : ∀ a0 a1 k, LeO (spec_IsGraph.f k a0 a1) (spec_IsGraph.f (k + 1) a0 a1) := by
 intro a0 a1 k
 obtain ⟨ih0, ih1⟩ := spec_IsGraph.mono_l k
 unfold spec_IsGraph.f
 repeat' with_reducible first | exact ih0 _ _ _ | exact ih1 _ _ _ _ _ | exact LeO.refl _ | exact LeO.none _ | refine LeO.ite ?_ ?_ | refine LeO.bind ?_ (fun _ => ?_)
set_option maxHeartbeats 8000000 in
set_option maxRecDepth 100000 in
theorem spec_IsGraph.calls (k : Nat) (a0_0 : Int) (A0_1 : Option Addr) (c0_1 : Nat) (l0_1 : List (List Int)) (r : Bool) (w : World) (hr0_1 : Kd.C (Kd.slice 3 (Kd.int .i64)) w A0_1 l0_1.length l0_1) (hc0_1 : l0_1.length ≤ c0_1) (h : spec_IsGraph.f k a0_0 l0_1 = some r) :
  Calls Try.prog 28 #[.agg #[.int .i64 a0_0, .slice A0_1 l0_1.length c0_1]] w fun e w' => e = .returned (.bool r) ∧ Below w.heap.size w w' := by
 have hu28 := Try.underlying28
 have HR0_1 := Aside0.mk hr0_1
 have HC0_1 := Aside0.mk hc0_1
 clear hr0_1 hc0_1
 have HB := Aside0.mk (Below.refl w.heap.size w)
 have H : (spec_IsGraph.l0 k 0 a0_0 l0_1) = some r := h
 clear h
 have H' := Aside0.mk H
 clear H
 go_enter Try.func28, Try.ntmps28
 go_wp2_with (first | ((with_reducible refine gate_dst (N := 1) rfl ?_); refine box_event ?hg (N := 1) ?hd (cs := #[.int .i64 a0_0, .slice A0_1 l0_1.length c0_1]) (t := 28) ?hr ?_; (case hd => rfl); (case hg => rfl); (case hr => first | (go_simp; done) | (go_simp; rfl)); intro gb133 hg w2 hbox hb; have n0_ := Aside0.mk (below_step (mB HB.out) hb); have n1_ := Aside0.mk (hbox); have n2_ := Aside0.mk ((by rw [hg]; exact (below_size (mB HB.out)) : w.heap.size ≤ gb133)); have n3_ := Aside0.mk ((by rw [hg]; exact (below_size (mB HB.out)) : w.heap.size ≤ gb133)); clear HB; have HB := n0_; have BK133 := n1_; have GW133 := n2_; have GE133 := n3_; clear n0_ n1_ n2_ n3_; clear hb hbox hg))
 repeat (go_quiet (first | ((with_reducible refine gate_dst (N := 1) rfl ?_); refine box_event ?hg (N := 1) ?hd (cs := #[.int .i64 a0_0, .slice A0_1 l0_1.length c0_1]) (t := 28) ?hr ?_; (case hd => rfl); (case hg => rfl); (case hr => first | (go_simp; done) | (go_simp; rfl)); intro gb133 hg w2 hbox hb; have n0_ := Aside0.mk (below_step (mB HB.out) hb); have n1_ := Aside0.mk (hbox); have n2_ := Aside0.mk ((by rw [hg]; exact (below_size (mB HB.out)) : w.heap.size ≤ gb133)); have n3_ := Aside0.mk ((by rw [hg]; exact (below_size (mB HB.out)) : w.heap.size ≤ gb133)); clear HB; have HB := n0_; have BK133 := n1_; have GW133 := n2_; have GE133 := n3_; clear n0_ n1_ n2_ n3_; clear hb hbox hg)); try go_wp2_with (first | ((with_reducible refine gate_dst (N := 1) rfl ?_); refine box_event ?hg (N := 1) ?hd (cs := #[.int .i64 a0_0, .slice A0_1 l0_1.length c0_1]) (t := 28) ?hr ?_; (case hd => rfl); (case hg => rfl); (case hr => first | (go_simp; done) | (go_simp; rfl)); intro gb133 hg w2 hbox hb; have n0_ := Aside0.mk (below_step (mB HB.out) hb); have n1_ := Aside0.mk (hbox); have n2_ := Aside0.mk ((by rw [hg]; exact (below_size (mB HB.out)) : w.heap.size ≤ gb133)); have n3_ := Aside0.mk ((by rw [hg]; exact (below_size (mB HB.out)) : w.heap.size ≤ gb133)); clear HB; have HB := n0_; have BK133 := n1_; have GW133 := n2_; have GE133 := n3_; clear n0_ n1_ n2_ n3_; clear hb hbox hg)))
 go_loopg [3] k (fun kq v3 w' => ∃ (x3_1 : Int), v3 = .int .i64 x3_1 ∧ Aside0 (spec_IsGraph.l0 kq x3_1 a0_0 l0_1 = some r) ∧ Aside0 (kq ≤ k) ∧ Aside0 (w'.heap[gb133]? = some (.cells #[.int .i64 a0_0, (.slice A0_1 l0_1.length c0_1)] 28 (0, 0))) ∧ Aside0 (Below w.heap.size w w'))
 case atStart => exact ⟨(0), mF, H', ⟨Nat.le_refl _⟩, ⟨(mK (BK133.out))⟩, ⟨mG⟩⟩
 case round =>
  clear H'
  obtain ⟨x3_1, rfl, HA, HK1, BK133, HB⟩ := hrel
  cases gk with
  | zero => exact absurd HA.out (by simp [spec_IsGraph.l0])
  | succ k1 =>
   have H := HA.out
   clear HA
   simp only [spec_IsGraph.l0] at H
   by_cases c3 : x3_1 < (l0_1.length : Int)
   rotate_left
   ·
    rw [if_neg c3] at H
    have c3b0 : decide (x3_1 < (l0_1.length : Int)) = false := decide_eq_false c3
    clear c3
    replace H := Option.bind_eq_some_iff.mp H
    obtain ⟨t134, A310, H⟩ := H
    have A31 := Aside0.mk A310
    clear A310
    obtain rfl := Option.some.inj H
    have hcz32_0 : wr.cell? ⟨gb133, 0, none⟩ = some (.int .i64 a0_0) := (blk_cell BK133.out 0).trans rfl
    have hcz32_1 : wr.cell? ⟨gb133, 1, none⟩ = some (.slice A0_1 l0_1.length c0_1) := (blk_cell BK133.out 1).trans rfl
    have hfz32_0 := blk_frozen BK133.out 0
    have hfz32_1 := blk_frozen BK133.out 1
    go_wp2_with (first | (go_at_call 29; (with_reducible refine (spec_l1In.calls a0_0 0 10 t134 _ A31.out).mono ?_); rintro e w' ⟨rfl, ⟨nd, rfl⟩⟩; (try first | exact ⟨rfl, _, World.drewN_drewN _ _ _⟩ | exact ⟨rfl, _, Eq.trans (World.drewN_drewN _ _ _) (congrArg (World.drewN _) (Nat.add_assoc _ _ _))⟩)))
    repeat (go_quiet (first | (go_at_call 29; (with_reducible refine (spec_l1In.calls a0_0 0 10 t134 _ A31.out).mono ?_); rintro e w' ⟨rfl, ⟨nd, rfl⟩⟩; (try first | exact ⟨rfl, _, World.drewN_drewN _ _ _⟩ | exact ⟨rfl, _, Eq.trans (World.drewN_drewN _ _ _) (congrArg (World.drewN _) (Nat.add_assoc _ _ _))⟩))); try go_wp2_with (first | (go_at_call 29; (with_reducible refine (spec_l1In.calls a0_0 0 10 t134 _ A31.out).mono ?_); rintro e w' ⟨rfl, ⟨nd, rfl⟩⟩; (try first | exact ⟨rfl, _, World.drewN_drewN _ _ _⟩ | exact ⟨rfl, _, Eq.trans (World.drewN_drewN _ _ _) (congrArg (World.drewN _) (Nat.add_assoc _ _ _))⟩))))
    go_ret
    exact ⟨mE, mG⟩
   rw [if_pos c3] at H
   have c3b0 : decide (x3_1 < (l0_1.length : Int)) = true := decide_eq_true c3
   clear c3
   by_cases c4 : 0 ≤ x3_1
   rotate_left
   ·
    rw [if_neg c4] at H
    exact absurd H (by simp)
   rw [if_pos c4] at H
   have c4b0 : decide (0 ≤ x3_1) = true := decide_eq_true c4
   clear c4
   have HC5 := Aside0.mk H
   clear H
   have hcz6_0 : wr.cell? ⟨gb133, 0, none⟩ = some (.int .i64 a0_0) := (blk_cell BK133.out 0).trans rfl
   have hcz6_1 : wr.cell? ⟨gb133, 1, none⟩ = some (.slice A0_1 l0_1.length c0_1) := (blk_cell BK133.out 1).trans rfl
   have hfz6_0 := blk_frozen BK133.out 0
   have hfz6_1 := blk_frozen BK133.out 1
   have p135 : 0 ≤ (x3_1 : Int) := mD
   have q135 : x3_1 < (l0_1.length : Int) := mD
   obtain ⟨ad135, A135_0, c135_0, e135, hx135_0, hl135_0, hi135_0⟩ := at_L1 HR0_1.out x3_1 p135 q135
   cases e135
   replace hx135_0 := (HB.out.cell (World.block_lt_of_cell? w _ hx135_0)).trans hx135_0
   have HR135_0 := Aside0.mk hi135_0
   have HC135_0 := Aside0.mk hl135_0
   clear hi135_0 hl135_0
   replace p135 := eq_true p135
   replace q135 := eq_true q135
   go_upto_region 5 with (fail)
   repeat (go_quiet (fail); go_upto_region 5 with (fail))
   go_cut [40] (fun v40 wc => ∃ (kq : Nat) (x40_4 : Bool), v40 = .bool x40_4 ∧ Aside0 (spec_IsGraph.j1 kq x3_1 (rd_L1 l0_1 x3_1) x40_4 a0_0 l0_1 = some r) ∧ Aside0 (kq ≤ k1) ∧ Aside0 (wc.heap[gb133]? = some (.cells #[.int .i64 a0_0, (.slice (some ad135) l0_1.length c0_1)] 28 (0, 0))) ∧ Aside0 (Below w.heap.size w wc))
   case first =>
    have H := HC5.out
    clear HC5
    by_cases c7 : ((rd_L1 l0_1 x3_1).length : Int) = 2
    rotate_left
    ·
     rw [if_neg c7] at H
     have c7b0 : (((rd_L1 l0_1 x3_1).length : Int) == 2) = false := beq_eq_false_iff_ne.mpr c7
     have c7b1 : (((rd_L1 l0_1 x3_1).length : Int) != 2) = true := bne_iff_ne.mpr c7
     (first | rw [c7b0] | (simp only [i64_w, i32_w]; rw [c7b0]) | skip)
     have H' := Aside0.mk H
     clear H
     go_wp2
     repeat (go_quiet (fail); try go_wp2)
     go_meet
     case rel => exact ⟨_, (true), mF, H', ⟨by have := HK1.out; first | omega | exact Nat.le_refl _⟩, ⟨(mK (BK133.out))⟩, ⟨mG⟩⟩
    rw [if_pos c7] at H
    have c7b0 : (((rd_L1 l0_1 x3_1).length : Int) == 2) = true := beq_iff_eq.mpr c7
    have c7b1 : (((rd_L1 l0_1 x3_1).length : Int) != 2) = false := bne_eq_false_iff_eq.mpr c7
    clear c7
    (first | rw [c7b0] | (simp only [i64_w, i32_w]; rw [c7b0]) | skip)
    by_cases c8 : 0 < ((rd_L1 l0_1 x3_1).length : Int)
    rotate_left
    ·
     rw [if_neg c8] at H
     exact absurd H (by simp)
    rw [if_pos c8] at H
    have c8b0 : decide (0 < ((rd_L1 l0_1 x3_1).length : Int)) = true := decide_eq_true c8
    have c8b1 : decide (0 < (rd_L1 l0_1 x3_1).length) = true := decide_eq_true (by omega)
    clear c8
    replace H := Option.bind_eq_some_iff.mp H
    obtain ⟨t137, A90, H⟩ := H
    have A9 := Aside0.mk A90
    clear A90
    by_cases c10 : t137 = true
    rotate_left
    ·
     replace c10 := Bool.eq_false_iff.mpr c10
     subst c10
     rw [if_neg (show ¬ (false = true) by decide)] at H
     have H' := Aside0.mk H
     clear H
     have p136 : 0 ≤ (0 : Int) := (by omega)
     have q136 : 0 < ((rd_L1 l0_1 x3_1).length : Int) := mD
     obtain ⟨ad136, e136, hx136_0⟩ := Kd.at_int HR135_0.out 0 p136 q136
     cases e136
     have qi136 : (0 < (rd_L1 l0_1 x3_1).length) = True := eq_true (by omega)
     (try rw [show ((0 : Int)).toNat = 0 from rfl] at hx136_0)
     (try rw [Addr.add_zero'] at hx136_0)
     replace hx136_0 := (HB.out.cell (World.block_lt_of_cell? w _ hx136_0)).trans hx136_0
     replace p136 := eq_true p136
     replace q136 := eq_true q136
     have hcz14_0 : wr.cell? ⟨gb133, 0, none⟩ = some (.int .i64 a0_0) := (blk_cell BK133.out 0).trans rfl
     have hcz14_1 : wr.cell? ⟨gb133, 1, none⟩ = some (.slice (some ad135) l0_1.length c0_1) := (blk_cell BK133.out 1).trans rfl
     have hfz14_0 := blk_frozen BK133.out 0
     have hfz14_1 := blk_frozen BK133.out 1
     go_wp2_with (first | (go_at_call 29; (with_reducible refine (spec_l1In.calls (rd (rd_L1 l0_1 x3_1) 0) 0 (wrap64 (a0_0 - 1)) false _ A9.out).mono ?_); rintro e w' ⟨rfl, ⟨nd, rfl⟩⟩; (try first | exact ⟨rfl, _, World.drewN_drewN _ _ _⟩ | exact ⟨rfl, _, Eq.trans (World.drewN_drewN _ _ _) (congrArg (World.drewN _) (Nat.add_assoc _ _ _))⟩)))
     repeat (go_quiet (first | (go_at_call 29; (with_reducible refine (spec_l1In.calls (rd (rd_L1 l0_1 x3_1) 0) 0 (wrap64 (a0_0 - 1)) false _ A9.out).mono ?_); rintro e w' ⟨rfl, ⟨nd, rfl⟩⟩; (try first | exact ⟨rfl, _, World.drewN_drewN _ _ _⟩ | exact ⟨rfl, _, Eq.trans (World.drewN_drewN _ _ _) (congrArg (World.drewN _) (Nat.add_assoc _ _ _))⟩))); try go_wp2_with (first | (go_at_call 29; (with_reducible refine (spec_l1In.calls (rd (rd_L1 l0_1 x3_1) 0) 0 (wrap64 (a0_0 - 1)) false _ A9.out).mono ?_); rintro e w' ⟨rfl, ⟨nd, rfl⟩⟩; (try first | exact ⟨rfl, _, World.drewN_drewN _ _ _⟩ | exact ⟨rfl, _, Eq.trans (World.drewN_drewN _ _ _) (congrArg (World.drewN _) (Nat.add_assoc _ _ _))⟩))))
     go_meet
     case rel => exact ⟨_, (true), mF, H', ⟨by have := HK1.out; first | omega | exact Nat.le_refl _⟩, ⟨(mK (BK133.out))⟩, ⟨mG⟩⟩
    subst c10
    rw [if_pos rfl] at H
    by_cases c11 : 1 < ((rd_L1 l0_1 x3_1).length : Int)
    rotate_left
    ·
     rw [if_neg c11] at H
     exact absurd H (by simp)
    rw [if_pos c11] at H
    have c11b0 : decide (1 < ((rd_L1 l0_1 x3_1).length : Int)) = true := decide_eq_true c11
    have c11b1 : decide (1 < (rd_L1 l0_1 x3_1).length) = true := decide_eq_true (by omega)
    clear c11
    replace H := Option.bind_eq_some_iff.mp H
    obtain ⟨t139, A120, H⟩ := H
    have A12 := Aside0.mk A120
    clear A120
    have H' := Aside0.mk H
    clear H
    have p136 : 0 ≤ (0 : Int) := (by omega)
    have q136 : 0 < ((rd_L1 l0_1 x3_1).length : Int) := mD
    obtain ⟨ad136, e136, hx136_0⟩ := Kd.at_int HR135_0.out 0 p136 q136
    cases e136
    have qi136 : (0 < (rd_L1 l0_1 x3_1).length) = True := eq_true (by omega)
    (try rw [show ((0 : Int)).toNat = 0 from rfl] at hx136_0)
    (try rw [Addr.add_zero'] at hx136_0)
    replace hx136_0 := (HB.out.cell (World.block_lt_of_cell? w _ hx136_0)).trans hx136_0
    replace p136 := eq_true p136
    replace q136 := eq_true q136
    have hcz13_0 : wr.cell? ⟨gb133, 0, none⟩ = some (.int .i64 a0_0) := (blk_cell BK133.out 0).trans rfl
    have hcz13_1 : wr.cell? ⟨gb133, 1, none⟩ = some (.slice (some ad135) l0_1.length c0_1) := (blk_cell BK133.out 1).trans rfl
    have hfz13_0 := blk_frozen BK133.out 0
    have hfz13_1 := blk_frozen BK133.out 1
    have p138 : 0 ≤ (1 : Int) := (by omega)
    have q138 : 1 < ((rd_L1 l0_1 x3_1).length : Int) := mD
    obtain ⟨ad138, e138, hx138_0⟩ := Kd.at_int HR135_0.out 1 p138 q138
    obtain rfl : ad136 = ad138 := (by injection e138)
    (try simp only [show (1 : Int).toNat = 1 from rfl, Nat.reduceMul, Nat.reduceEqDiff, Go.Addr.add, ↓reduceIte] at hx138_0)
    have qi138 : (1 < (rd_L1 l0_1 x3_1).length) = True := eq_true (by omega)
    (try rw [show ((1 : Int)).toNat = 1 from rfl] at hx138_0)
    replace hx138_0 := (HB.out.cell (World.block_lt_of_cell? w _ hx138_0)).trans hx138_0
    replace p138 := eq_true p138
    replace q138 := eq_true q138
    go_wp2_with (first | (go_at_call 29; (with_reducible refine (spec_l1In.calls (rd (rd_L1 l0_1 x3_1) 0) 0 (wrap64 (a0_0 - 1)) true _ A9.out).mono ?_); rintro e w' ⟨rfl, ⟨nd, rfl⟩⟩; (try first | exact ⟨rfl, _, World.drewN_drewN _ _ _⟩ | exact ⟨rfl, _, Eq.trans (World.drewN_drewN _ _ _) (congrArg (World.drewN _) (Nat.add_assoc _ _ _))⟩)) | (go_at_call 29; (with_reducible refine (spec_l1In.calls (rd (rd_L1 l0_1 x3_1) 1) 0 (wrap64 (a0_0 - 1)) t139 _ A12.out).mono ?_); rintro e w' ⟨rfl, ⟨nd, rfl⟩⟩; (try first | exact ⟨rfl, _, World.drewN_drewN _ _ _⟩ | exact ⟨rfl, _, Eq.trans (World.drewN_drewN _ _ _) (congrArg (World.drewN _) (Nat.add_assoc _ _ _))⟩)))
    repeat (go_quiet (first | (go_at_call 29; (with_reducible refine (spec_l1In.calls (rd (rd_L1 l0_1 x3_1) 0) 0 (wrap64 (a0_0 - 1)) true _ A9.out).mono ?_); rintro e w' ⟨rfl, ⟨nd, rfl⟩⟩; (try first | exact ⟨rfl, _, World.drewN_drewN _ _ _⟩ | exact ⟨rfl, _, Eq.trans (World.drewN_drewN _ _ _) (congrArg (World.drewN _) (Nat.add_assoc _ _ _))⟩)) | (go_at_call 29; (with_reducible refine (spec_l1In.calls (rd (rd_L1 l0_1 x3_1) 1) 0 (wrap64 (a0_0 - 1)) t139 _ A12.out).mono ?_); rintro e w' ⟨rfl, ⟨nd, rfl⟩⟩; (try first | exact ⟨rfl, _, World.drewN_drewN _ _ _⟩ | exact ⟨rfl, _, Eq.trans (World.drewN_drewN _ _ _) (congrArg (World.drewN _) (Nat.add_assoc _ _ _))⟩))); try go_wp2_with (first | (go_at_call 29; (with_reducible refine (spec_l1In.calls (rd (rd_L1 l0_1 x3_1) 0) 0 (wrap64 (a0_0 - 1)) true _ A9.out).mono ?_); rintro e w' ⟨rfl, ⟨nd, rfl⟩⟩; (try first | exact ⟨rfl, _, World.drewN_drewN _ _ _⟩ | exact ⟨rfl, _, Eq.trans (World.drewN_drewN _ _ _) (congrArg (World.drewN _) (Nat.add_assoc _ _ _))⟩)) | (go_at_call 29; (with_reducible refine (spec_l1In.calls (rd (rd_L1 l0_1 x3_1) 1) 0 (wrap64 (a0_0 - 1)) t139 _ A12.out).mono ?_); rintro e w' ⟨rfl, ⟨nd, rfl⟩⟩; (try first | exact ⟨rfl, _, World.drewN_drewN _ _ _⟩ | exact ⟨rfl, _, Eq.trans (World.drewN_drewN _ _ _) (congrArg (World.drewN _) (Nat.add_assoc _ _ _))⟩))))
    go_meet
    case rel => exact ⟨_, (!t139), mF, H', ⟨by have := HK1.out; first | omega | exact Nat.le_refl _⟩, ⟨(mK (BK133.out))⟩, ⟨mG⟩⟩
   case rest =>
    clear HC5; (try clear hx1); (try clear qi1); (try clear c3b0); (try clear c4b0); (try clear c7b0); (try clear c7b1); (try clear c8b0); (try clear c8b1); (try clear c11b0); (try clear c11b1); (try clear hx13); (try clear qi13); (try clear hcz13_0); (try clear hcz13_1); (try clear hcz14_0); (try clear hcz14_1); (try clear hcz6_0); (try clear hcz6_1); (try clear hfz13_0); (try clear hfz13_1); (try clear hfz14_0); (try clear hfz14_1); (try clear hfz6_0); (try clear hfz6_1); (try clear hx135_0); (try clear hx136_0); (try clear hx138_0)
    obtain ⟨kq, x40_4, rfl, HA, HJ4, BK133, HB⟩ := hcut
    cases kq with
    | zero => exact absurd HA.out (by simp [spec_IsGraph.j1])
    | succ kj4 =>
     have H := HA.out
     clear HA
     simp only [spec_IsGraph.j1] at H
     by_cases c15 : x40_4 = true
     ·
      subst c15
      rw [if_pos rfl] at H
      obtain rfl := Option.some.inj H
      go_wp2
      repeat (go_quiet (fail); try go_wp2)
      go_ret
      exact ⟨mE, mG⟩
     replace c15 := Bool.eq_false_iff.mpr c15
     subst c15
     rw [if_neg (show ¬ (false = true) by decide)] at H
     by_cases c16 : x3_1 > 0
     rotate_left
     ·
      rw [if_neg c16] at H
      have c16b0 : decide (0 < x3_1) = false := decide_eq_false c16
      clear c16
      have H' := Aside0.mk H
      clear H
      go_wp2
      repeat (go_quiet (fail); try go_wp2)
      go_roundg kj4
      case measure => have := HK1.out; have := HJ4.out; omega
      case rel => exact ⟨(wrap64 (x3_1 + 1)), mF, H', ⟨by have := HK1.out; have := HJ4.out; omega⟩, ⟨(mK (BK133.out))⟩, ⟨mG⟩⟩
     rw [if_pos c16] at H
     have c16b0 : decide (0 < x3_1) = true := decide_eq_true c16
     clear c16
     obtain ⟨ji17, hji17⟩ : ∃ j_ : Int, (wrap64 (x3_1 - 1)) = j_ := ⟨_, rfl⟩
     replace H : (if 0 ≤ (ji17) then (if (ji17) < (l0_1.length : Int) then (if 0 < ((rd_L1 l0_1 (ji17)).length : Int) then (if 0 < ((rd_L1 l0_1 x3_1).length : Int) then (if (rd (rd_L1 l0_1 (ji17)) 0) > (rd (rd_L1 l0_1 x3_1) 0) then (some false) else (if (rd (rd_L1 l0_1 (ji17)) 0) = (rd (rd_L1 l0_1 x3_1) 0) then (if 1 < ((rd_L1 l0_1 (ji17)).length : Int) then (if 1 < ((rd_L1 l0_1 x3_1).length : Int) then (if (rd (rd_L1 l0_1 (ji17)) 1) ≥ (rd (rd_L1 l0_1 x3_1) 1) then (some false) else (spec_IsGraph.l0 kj4 (wrap64 (x3_1 + 1)) a0_0 l0_1)) else (none)) else (none)) else (spec_IsGraph.l0 kj4 (wrap64 (x3_1 + 1)) a0_0 l0_1))) else (none)) else (none)) else (none)) else (none)) = some r := by first | (rw [hji17] at H; exact H) | (simp only [hji17] at H ⊢; exact H)
     have hji17w : (IntKind.i64.wrap (x3_1 - 1)) = ji17 := (i64_w _).trans hji17
     by_cases c18 : 0 ≤ (ji17)
     rotate_left
     ·
      rw [if_neg c18] at H
      exact absurd H (by simp)
     rw [if_pos c18] at H
     have c18b0 : decide (0 ≤ (ji17)) = true := decide_eq_true c18
     clear c18
     by_cases c19 : (ji17) < (l0_1.length : Int)
     rotate_left
     ·
      rw [if_neg c19] at H
      exact absurd H (by simp)
     rw [if_pos c19] at H
     have c19b0 : decide ((ji17) < (l0_1.length : Int)) = true := decide_eq_true c19
     clear c19
     by_cases c20 : 0 < ((rd_L1 l0_1 (ji17)).length : Int)
     rotate_left
     ·
      rw [if_neg c20] at H
      exact absurd H (by simp)
     rw [if_pos c20] at H
     have c20b0 : decide (0 < ((rd_L1 l0_1 (ji17)).length : Int)) = true := decide_eq_true c20
     have c20b1 : decide (0 < (rd_L1 l0_1 (ji17)).length) = true := decide_eq_true (by omega)
     clear c20
     by_cases c21 : 0 < ((rd_L1 l0_1 x3_1).length : Int)
     rotate_left
     ·
      rw [if_neg c21] at H
      exact absurd H (by simp)
     rw [if_pos c21] at H
     have c21b0 : decide (0 < ((rd_L1 l0_1 x3_1).length : Int)) = true := decide_eq_true c21
     have c21b1 : decide (0 < (rd_L1 l0_1 x3_1).length) = true := decide_eq_true (by omega)
     clear c21
     by_cases c22 : (rd (rd_L1 l0_1 (ji17)) 0) > (rd (rd_L1 l0_1 x3_1) 0)
     ·
      rw [if_pos c22] at H
      have c22b0 : decide ((rd (rd_L1 l0_1 x3_1) 0) < (rd (rd_L1 l0_1 (ji17)) 0)) = true := decide_eq_true c22
      clear c22
      obtain rfl := Option.some.inj H
      have hcz23_0 : wc.cell? ⟨gb133, 0, none⟩ = some (.int .i64 a0_0) := (blk_cell BK133.out 0).trans rfl
      have hcz23_1 : wc.cell? ⟨gb133, 1, none⟩ = some (.slice (some ad135) l0_1.length c0_1) := (blk_cell BK133.out 1).trans rfl
      have hfz23_0 := blk_frozen BK133.out 0
      have hfz23_1 := blk_frozen BK133.out 1
      have p140 : 0 ≤ ((ji17) : Int) := mD
      have q140 : (ji17) < (l0_1.length : Int) := mD
      obtain ⟨ad140, A140_0, c140_0, e140, hx140_0, hl140_0, hi140_0⟩ := at_L1 HR0_1.out (ji17) p140 q140
      obtain rfl : ad135 = ad140 := (by injection e140)
      replace hx140_0 := (HB.out.cell (World.block_lt_of_cell? w _ hx140_0)).trans hx140_0
      have HR140_0 := Aside0.mk hi140_0
      have HC140_0 := Aside0.mk hl140_0
      clear hi140_0 hl140_0
      (try (have e_ := Option.some.inj (hx140_0.symm.trans hHeld.2.2); injection e_ with e1_ _ e2_; subst e1_; subst e2_))
      replace p140 := eq_true p140
      replace q140 := eq_true q140
      have p141 : 0 ≤ (0 : Int) := (by omega)
      have q141 : 0 < ((rd_L1 l0_1 (ji17)).length : Int) := mD
      obtain ⟨ad141, e141, hx141_0⟩ := Kd.at_int HR140_0.out 0 p141 q141
      cases e141
      have qi141 : (0 < (rd_L1 l0_1 (ji17)).length) = True := eq_true (by omega)
      (try rw [show ((0 : Int)).toNat = 0 from rfl] at hx141_0)
      (try rw [Addr.add_zero'] at hx141_0)
      replace hx141_0 := (HB.out.cell (World.block_lt_of_cell? w _ hx141_0)).trans hx141_0
      replace p141 := eq_true p141
      replace q141 := eq_true q141
      have p142 : 0 ≤ (0 : Int) := (by omega)
      have q142 : 0 < ((rd_L1 l0_1 x3_1).length : Int) := mD
      obtain ⟨ad142, e142, hx142_0⟩ := Kd.at_int HR135_0.out 0 p142 q142
      cases e142
      have qi142 : (0 < (rd_L1 l0_1 x3_1).length) = True := eq_true (by omega)
      (try rw [show ((0 : Int)).toNat = 0 from rfl] at hx142_0)
      (try rw [Addr.add_zero'] at hx142_0)
      replace hx142_0 := (HB.out.cell (World.block_lt_of_cell? w _ hx142_0)).trans hx142_0
      replace p142 := eq_true p142
      replace q142 := eq_true q142
      go_wp2
      repeat (go_quiet (fail); try go_wp2)
      go_ret
      exact ⟨by first | rfl | (simp [errW_none, errW_some] <;> rfl) | (simp only [← hji17]; first | rfl | (simp [errW_none, errW_some] <;> rfl)) | (simp [*, errW_none, errW_some] <;> rfl), mG⟩
     rw [if_neg c22] at H
     have c22b0 : decide ((rd (rd_L1 l0_1 x3_1) 0) < (rd (rd_L1 l0_1 (ji17)) 0)) = false := decide_eq_false c22
     clear c22
     by_cases c24 : (rd (rd_L1 l0_1 (ji17)) 0) = (rd (rd_L1 l0_1 x3_1) 0)
     rotate_left
     ·
      rw [if_neg c24] at H
      have c24b0 : ((rd (rd_L1 l0_1 (ji17)) 0) == (rd (rd_L1 l0_1 x3_1) 0)) = false := beq_eq_false_iff_ne.mpr c24
      have c24b1 : ((rd (rd_L1 l0_1 (ji17)) 0) != (rd (rd_L1 l0_1 x3_1) 0)) = true := bne_iff_ne.mpr c24
      have H' := Aside0.mk H
      clear H
      have hcz30_0 : wc.cell? ⟨gb133, 0, none⟩ = some (.int .i64 a0_0) := (blk_cell BK133.out 0).trans rfl
      have hcz30_1 : wc.cell? ⟨gb133, 1, none⟩ = some (.slice (some ad135) l0_1.length c0_1) := (blk_cell BK133.out 1).trans rfl
      have hfz30_0 := blk_frozen BK133.out 0
      have hfz30_1 := blk_frozen BK133.out 1
      have p140 : 0 ≤ ((ji17) : Int) := mD
      have q140 : (ji17) < (l0_1.length : Int) := mD
      obtain ⟨ad140, A140_0, c140_0, e140, hx140_0, hl140_0, hi140_0⟩ := at_L1 HR0_1.out (ji17) p140 q140
      obtain rfl : ad135 = ad140 := (by injection e140)
      replace hx140_0 := (HB.out.cell (World.block_lt_of_cell? w _ hx140_0)).trans hx140_0
      have HR140_0 := Aside0.mk hi140_0
      have HC140_0 := Aside0.mk hl140_0
      clear hi140_0 hl140_0
      (try (have e_ := Option.some.inj (hx140_0.symm.trans hHeld.2.2); injection e_ with e1_ _ e2_; subst e1_; subst e2_))
      replace p140 := eq_true p140
      replace q140 := eq_true q140
      have p141 : 0 ≤ (0 : Int) := (by omega)
      have q141 : 0 < ((rd_L1 l0_1 (ji17)).length : Int) := mD
      obtain ⟨ad141, e141, hx141_0⟩ := Kd.at_int HR140_0.out 0 p141 q141
      cases e141
      have qi141 : (0 < (rd_L1 l0_1 (ji17)).length) = True := eq_true (by omega)
      (try rw [show ((0 : Int)).toNat = 0 from rfl] at hx141_0)
      (try rw [Addr.add_zero'] at hx141_0)
      replace hx141_0 := (HB.out.cell (World.block_lt_of_cell? w _ hx141_0)).trans hx141_0
      replace p141 := eq_true p141
      replace q141 := eq_true q141
      have p142 : 0 ≤ (0 : Int) := (by omega)
      have q142 : 0 < ((rd_L1 l0_1 x3_1).length : Int) := mD
      obtain ⟨ad142, e142, hx142_0⟩ := Kd.at_int HR135_0.out 0 p142 q142
      cases e142
      have qi142 : (0 < (rd_L1 l0_1 x3_1).length) = True := eq_true (by omega)
      (try rw [show ((0 : Int)).toNat = 0 from rfl] at hx142_0)
      (try rw [Addr.add_zero'] at hx142_0)
      replace hx142_0 := (HB.out.cell (World.block_lt_of_cell? w _ hx142_0)).trans hx142_0
      replace p142 := eq_true p142
      replace q142 := eq_true q142
      have p143 : 0 ≤ (0 : Int) := (by omega)
      have q143 : 0 < ((rd_L1 l0_1 (ji17)).length : Int) := mD
      obtain ⟨ad143, e143, hx143_0⟩ := Kd.at_int HR140_0.out 0 p143 q143
      obtain rfl : ad141 = ad143 := (by injection e143)
      have qi143 : (0 < (rd_L1 l0_1 (ji17)).length) = True := eq_true (by omega)
      (try rw [show ((0 : Int)).toNat = 0 from rfl] at hx143_0)
      (try rw [Addr.add_zero'] at hx143_0)
      replace hx143_0 := (HB.out.cell (World.block_lt_of_cell? w _ hx143_0)).trans hx143_0
      replace p143 := eq_true p143
      replace q143 := eq_true q143
      have p144 : 0 ≤ (0 : Int) := (by omega)
      have q144 : 0 < ((rd_L1 l0_1 x3_1).length : Int) := mD
      obtain ⟨ad144, e144, hx144_0⟩ := Kd.at_int HR135_0.out 0 p144 q144
      obtain rfl : ad142 = ad144 := (by injection e144)
      have qi144 : (0 < (rd_L1 l0_1 x3_1).length) = True := eq_true (by omega)
      (try rw [show ((0 : Int)).toNat = 0 from rfl] at hx144_0)
      (try rw [Addr.add_zero'] at hx144_0)
      replace hx144_0 := (HB.out.cell (World.block_lt_of_cell? w _ hx144_0)).trans hx144_0
      replace p144 := eq_true p144
      replace q144 := eq_true q144
      go_wp2
      repeat (go_quiet (fail); try go_wp2)
      go_roundg kj4
      case measure => have := HK1.out; have := HJ4.out; omega
      case rel => exact ⟨(wrap64 (x3_1 + 1)), mF, H', ⟨by have := HK1.out; have := HJ4.out; omega⟩, ⟨(mK (BK133.out))⟩, ⟨mG⟩⟩
     rw [if_pos c24] at H
     have c24b0 : ((rd (rd_L1 l0_1 (ji17)) 0) == (rd (rd_L1 l0_1 x3_1) 0)) = true := beq_iff_eq.mpr c24
     have c24b1 : ((rd (rd_L1 l0_1 (ji17)) 0) != (rd (rd_L1 l0_1 x3_1) 0)) = false := bne_eq_false_iff_eq.mpr c24
     clear c24
     by_cases c25 : 1 < ((rd_L1 l0_1 (ji17)).length : Int)
     rotate_left
     ·
      rw [if_neg c25] at H
      exact absurd H (by simp)
     rw [if_pos c25] at H
     have c25b0 : decide (1 < ((rd_L1 l0_1 (ji17)).length : Int)) = true := decide_eq_true c25
     have c25b1 : decide (1 < (rd_L1 l0_1 (ji17)).length) = true := decide_eq_true (by omega)
     clear c25
     by_cases c26 : 1 < ((rd_L1 l0_1 x3_1).length : Int)
     rotate_left
     ·
      rw [if_neg c26] at H
      exact absurd H (by simp)
     rw [if_pos c26] at H
     have c26b0 : decide (1 < ((rd_L1 l0_1 x3_1).length : Int)) = true := decide_eq_true c26
     have c26b1 : decide (1 < (rd_L1 l0_1 x3_1).length) = true := decide_eq_true (by omega)
     clear c26
     by_cases c27 : (rd (rd_L1 l0_1 (ji17)) 1) ≥ (rd (rd_L1 l0_1 x3_1) 1)
     ·
      rw [if_pos c27] at H
      have c27b0 : decide ((rd (rd_L1 l0_1 x3_1) 1) ≤ (rd (rd_L1 l0_1 (ji17)) 1)) = true := decide_eq_true c27
      clear c27
      obtain rfl := Option.some.inj H
      have hcz28_0 : wc.cell? ⟨gb133, 0, none⟩ = some (.int .i64 a0_0) := (blk_cell BK133.out 0).trans rfl
      have hcz28_1 : wc.cell? ⟨gb133, 1, none⟩ = some (.slice (some ad135) l0_1.length c0_1) := (blk_cell BK133.out 1).trans rfl
      have hfz28_0 := blk_frozen BK133.out 0
      have hfz28_1 := blk_frozen BK133.out 1
      have p140 : 0 ≤ ((ji17) : Int) := mD
      have q140 : (ji17) < (l0_1.length : Int) := mD
      obtain ⟨ad140, A140_0, c140_0, e140, hx140_0, hl140_0, hi140_0⟩ := at_L1 HR0_1.out (ji17) p140 q140
      obtain rfl : ad135 = ad140 := (by injection e140)
      replace hx140_0 := (HB.out.cell (World.block_lt_of_cell? w _ hx140_0)).trans hx140_0
      have HR140_0 := Aside0.mk hi140_0
      have HC140_0 := Aside0.mk hl140_0
      clear hi140_0 hl140_0
      (try (have e_ := Option.some.inj (hx140_0.symm.trans hHeld.2.2); injection e_ with e1_ _ e2_; subst e1_; subst e2_))
      replace p140 := eq_true p140
      replace q140 := eq_true q140
      have p141 : 0 ≤ (0 : Int) := (by omega)
      have q141 : 0 < ((rd_L1 l0_1 (ji17)).length : Int) := mD
      obtain ⟨ad141, e141, hx141_0⟩ := Kd.at_int HR140_0.out 0 p141 q141
      cases e141
      have qi141 : (0 < (rd_L1 l0_1 (ji17)).length) = True := eq_true (by omega)
      (try rw [show ((0 : Int)).toNat = 0 from rfl] at hx141_0)
      (try rw [Addr.add_zero'] at hx141_0)
      replace hx141_0 := (HB.out.cell (World.block_lt_of_cell? w _ hx141_0)).trans hx141_0
      replace p141 := eq_true p141
      replace q141 := eq_true q141
      have p142 : 0 ≤ (0 : Int) := (by omega)
      have q142 : 0 < ((rd_L1 l0_1 x3_1).length : Int) := mD
      obtain ⟨ad142, e142, hx142_0⟩ := Kd.at_int HR135_0.out 0 p142 q142
      cases e142
      have qi142 : (0 < (rd_L1 l0_1 x3_1).length) = True := eq_true (by omega)
      (try rw [show ((0 : Int)).toNat = 0 from rfl] at hx142_0)
      (try rw [Addr.add_zero'] at hx142_0)
      replace hx142_0 := (HB.out.cell (World.block_lt_of_cell? w _ hx142_0)).trans hx142_0
      replace p142 := eq_true p142
      replace q142 := eq_true q142
      have p143 : 0 ≤ (0 : Int) := (by omega)
      have q143 : 0 < ((rd_L1 l0_1 (ji17)).length : Int) := mD
      obtain ⟨ad143, e143, hx143_0⟩ := Kd.at_int HR140_0.out 0 p143 q143
      obtain rfl : ad141 = ad143 := (by injection e143)
      have qi143 : (0 < (rd_L1 l0_1 (ji17)).length) = True := eq_true (by omega)
      (try rw [show ((0 : Int)).toNat = 0 from rfl] at hx143_0)
      (try rw [Addr.add_zero'] at hx143_0)
      replace hx143_0 := (HB.out.cell (World.block_lt_of_cell? w _ hx143_0)).trans hx143_0
      replace p143 := eq_true p143
      replace q143 := eq_true q143
      have p144 : 0 ≤ (0 : Int) := (by omega)
      have q144 : 0 < ((rd_L1 l0_1 x3_1).length : Int) := mD
      obtain ⟨ad144, e144, hx144_0⟩ := Kd.at_int HR135_0.out 0 p144 q144
      obtain rfl : ad142 = ad144 := (by injection e144)
      have qi144 : (0 < (rd_L1 l0_1 x3_1).length) = True := eq_true (by omega)
      (try rw [show ((0 : Int)).toNat = 0 from rfl] at hx144_0)
      (try rw [Addr.add_zero'] at hx144_0)
      replace hx144_0 := (HB.out.cell (World.block_lt_of_cell? w _ hx144_0)).trans hx144_0
      replace p144 := eq_true p144
      replace q144 := eq_true q144
      have p145 : 0 ≤ (1 : Int) := (by omega)
      have q145 : 1 < ((rd_L1 l0_1 (ji17)).length : Int) := mD
      obtain ⟨ad145, e145, hx145_0⟩ := Kd.at_int HR140_0.out 1 p145 q145
      obtain rfl : ad141 = ad145 := (by injection e145)
      (try simp only [show (1 : Int).toNat = 1 from rfl, Nat.reduceMul, Nat.reduceEqDiff, Go.Addr.add, ↓reduceIte] at hx145_0)
      have qi145 : (1 < (rd_L1 l0_1 (ji17)).length) = True := eq_true (by omega)
      (try rw [show ((1 : Int)).toNat = 1 from rfl] at hx145_0)
      replace hx145_0 := (HB.out.cell (World.block_lt_of_cell? w _ hx145_0)).trans hx145_0
      replace p145 := eq_true p145
      replace q145 := eq_true q145
      have p146 : 0 ≤ (1 : Int) := (by omega)
      have q146 : 1 < ((rd_L1 l0_1 x3_1).length : Int) := mD
      obtain ⟨ad146, e146, hx146_0⟩ := Kd.at_int HR135_0.out 1 p146 q146
      obtain rfl : ad142 = ad146 := (by injection e146)
      (try simp only [show (1 : Int).toNat = 1 from rfl, Nat.reduceMul, Nat.reduceEqDiff, Go.Addr.add, ↓reduceIte] at hx146_0)
      have qi146 : (1 < (rd_L1 l0_1 x3_1).length) = True := eq_true (by omega)
      (try rw [show ((1 : Int)).toNat = 1 from rfl] at hx146_0)
      replace hx146_0 := (HB.out.cell (World.block_lt_of_cell? w _ hx146_0)).trans hx146_0
      replace p146 := eq_true p146
      replace q146 := eq_true q146
      go_wp2
      repeat (go_quiet (fail); try go_wp2)
      go_ret
      exact ⟨by first | rfl | (simp [errW_none, errW_some] <;> rfl) | (simp only [← hji17]; first | rfl | (simp [errW_none, errW_some] <;> rfl)) | (simp [*, errW_none, errW_some] <;> rfl), mG⟩
     rw [if_neg c27] at H
     have c27b0 : decide ((rd (rd_L1 l0_1 x3_1) 1) ≤ (rd (rd_L1 l0_1 (ji17)) 1)) = false := decide_eq_false c27
     clear c27
     have H' := Aside0.mk H
     clear H
     have hcz29_0 : wc.cell? ⟨gb133, 0, none⟩ = some (.int .i64 a0_0) := (blk_cell BK133.out 0).trans rfl
     have hcz29_1 : wc.cell? ⟨gb133, 1, none⟩ = some (.slice (some ad135) l0_1.length c0_1) := (blk_cell BK133.out 1).trans rfl
     have hfz29_0 := blk_frozen BK133.out 0
     have hfz29_1 := blk_frozen BK133.out 1
     have p140 : 0 ≤ ((ji17) : Int) := mD
     have q140 : (ji17) < (l0_1.length : Int) := mD
     obtain ⟨ad140, A140_0, c140_0, e140, hx140_0, hl140_0, hi140_0⟩ := at_L1 HR0_1.out (ji17) p140 q140
     obtain rfl : ad135 = ad140 := (by injection e140)
     replace hx140_0 := (HB.out.cell (World.block_lt_of_cell? w _ hx140_0)).trans hx140_0
     have HR140_0 := Aside0.mk hi140_0
     have HC140_0 := Aside0.mk hl140_0
     clear hi140_0 hl140_0
     (try (have e_ := Option.some.inj (hx140_0.symm.trans hHeld.2.2); injection e_ with e1_ _ e2_; subst e1_; subst e2_))
     replace p140 := eq_true p140
     replace q140 := eq_true q140
     have p141 : 0 ≤ (0 : Int) := (by omega)
     have q141 : 0 < ((rd_L1 l0_1 (ji17)).length : Int) := mD
     obtain ⟨ad141, e141, hx141_0⟩ := Kd.at_int HR140_0.out 0 p141 q141
     cases e141
     have qi141 : (0 < (rd_L1 l0_1 (ji17)).length) = True := eq_true (by omega)
     (try rw [show ((0 : Int)).toNat = 0 from rfl] at hx141_0)
     (try rw [Addr.add_zero'] at hx141_0)
     replace hx141_0 := (HB.out.cell (World.block_lt_of_cell? w _ hx141_0)).trans hx141_0
     replace p141 := eq_true p141
     replace q141 := eq_true q141
     have p142 : 0 ≤ (0 : Int) := (by omega)
     have q142 : 0 < ((rd_L1 l0_1 x3_1).length : Int) := mD
     obtain ⟨ad142, e142, hx142_0⟩ := Kd.at_int HR135_0.out 0 p142 q142
     cases e142
     have qi142 : (0 < (rd_L1 l0_1 x3_1).length) = True := eq_true (by omega)
     (try rw [show ((0 : Int)).toNat = 0 from rfl] at hx142_0)
     (try rw [Addr.add_zero'] at hx142_0)
     replace hx142_0 := (HB.out.cell (World.block_lt_of_cell? w _ hx142_0)).trans hx142_0
     replace p142 := eq_true p142
     replace q142 := eq_true q142
     have p143 : 0 ≤ (0 : Int) := (by omega)
     have q143 : 0 < ((rd_L1 l0_1 (ji17)).length : Int) := mD
     obtain ⟨ad143, e143, hx143_0⟩ := Kd.at_int HR140_0.out 0 p143 q143
     obtain rfl : ad141 = ad143 := (by injection e143)
     have qi143 : (0 < (rd_L1 l0_1 (ji17)).length) = True := eq_true (by omega)
     (try rw [show ((0 : Int)).toNat = 0 from rfl] at hx143_0)
     (try rw [Addr.add_zero'] at hx143_0)
     replace hx143_0 := (HB.out.cell (World.block_lt_of_cell? w _ hx143_0)).trans hx143_0
     replace p143 := eq_true p143
     replace q143 := eq_true q143
     have p144 : 0 ≤ (0 : Int) := (by omega)
     have q144 : 0 < ((rd_L1 l0_1 x3_1).length : Int) := mD
     obtain ⟨ad144, e144, hx144_0⟩ := Kd.at_int HR135_0.out 0 p144 q144
     obtain rfl : ad142 = ad144 := (by injection e144)
     have qi144 : (0 < (rd_L1 l0_1 x3_1).length) = True := eq_true (by omega)
     (try rw [show ((0 : Int)).toNat = 0 from rfl] at hx144_0)
     (try rw [Addr.add_zero'] at hx144_0)
     replace hx144_0 := (HB.out.cell (World.block_lt_of_cell? w _ hx144_0)).trans hx144_0
     replace p144 := eq_true p144
     replace q144 := eq_true q144
     have p145 : 0 ≤ (1 : Int) := (by omega)
     have q145 : 1 < ((rd_L1 l0_1 (ji17)).length : Int) := mD
     obtain ⟨ad145, e145, hx145_0⟩ := Kd.at_int HR140_0.out 1 p145 q145
     obtain rfl : ad141 = ad145 := (by injection e145)
     (try simp only [show (1 : Int).toNat = 1 from rfl, Nat.reduceMul, Nat.reduceEqDiff, Go.Addr.add, ↓reduceIte] at hx145_0)
     have qi145 : (1 < (rd_L1 l0_1 (ji17)).length) = True := eq_true (by omega)
     (try rw [show ((1 : Int)).toNat = 1 from rfl] at hx145_0)
     replace hx145_0 := (HB.out.cell (World.block_lt_of_cell? w _ hx145_0)).trans hx145_0
     replace p145 := eq_true p145
     replace q145 := eq_true q145
     have p146 : 0 ≤ (1 : Int) := (by omega)
     have q146 : 1 < ((rd_L1 l0_1 x3_1).length : Int) := mD
     obtain ⟨ad146, e146, hx146_0⟩ := Kd.at_int HR135_0.out 1 p146 q146
     obtain rfl : ad142 = ad146 := (by injection e146)
     (try simp only [show (1 : Int).toNat = 1 from rfl, Nat.reduceMul, Nat.reduceEqDiff, Go.Addr.add, ↓reduceIte] at hx146_0)
     have qi146 : (1 < (rd_L1 l0_1 x3_1).length) = True := eq_true (by omega)
     (try rw [show ((1 : Int)).toNat = 1 from rfl] at hx146_0)
     replace hx146_0 := (HB.out.cell (World.block_lt_of_cell? w _ hx146_0)).trans hx146_0
     replace p146 := eq_true p146
     replace q146 := eq_true q146
     go_wp2
     repeat (go_quiet (fail); try go_wp2)
     go_roundg kj4
     case measure => have := HK1.out; have := HJ4.out; omega
     case rel => exact ⟨(wrap64 (x3_1 + 1)), mF, H', ⟨by have := HK1.out; have := HJ4.out; omega⟩, ⟨(mK (BK133.out))⟩, ⟨mG⟩⟩
end Go.Proofs.Ytpdpampmbdgofaa.GFnExactAddAttack
