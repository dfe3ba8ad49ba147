-- Written by gprint.py, a program of this session, with the printer of the kit as its library. Lean checks it.
import Derived.Test.YtelkfhlnejlheaaGFnExactIsCrediblex0
import Derived.Test.YtelkfhlnejlheaaGFnExactIsCrediblex7
import Derived.Test.YtelkfhlnejlheaaGFnExactIsCrediblex8
import Derived.Test.YtelkfhlnejlheaaGFnExactIsCrediblex9
import Derived.Test.YtelkfhlnejlheaaGFnExactIsCrediblex10
namespace Go.Proofs.Ytelkfhlnejlheaa.GFnExactIsCredible
open Go.RowKit Go.Proofs.YtelkfhlnejlheaaW.PrintWords Go.Proofs.YtelkfhlnejlheaaW.PrintLast Go.Proofs.YtelkfhlnejlheaaW.PrintMore
attribute [local go_sem] max2_int min2_int max_two min_two max_three min_three max_four min_four   -- for this text's walks alone
set_option linter.unusedVariables false
set_option linter.unusedSimpArgs false


/-! ### slices_SortFunc_L: function 106, called with slices.Compare -/
def slices_SortFunc_L.f (k : Nat) (l : List (List Int)) : Option (List (List Int)) := if l.length < 4611686018427387904 ∧ (∀ p ∈ l, p.length < k ∧ p.length < 4611686018427387904) then some (Go.Proofs.YtelkfhlnejlheaaW.Pick.sortL l) else none
theorem slices_SortFunc_L.mono : ∀ a0 k, LeO (slices_SortFunc_L.f k a0) (slices_SortFunc_L.f (k + 1) a0) := by
 intro l k r h
 unfold slices_SortFunc_L.f at h ⊢
 by_cases c : l.length < 4611686018427387904 ∧ (∀ p ∈ l, p.length < k ∧ p.length < 4611686018427387904)
 ·
  rw [if_pos c] at h
  rw [if_pos ⟨c.1, fun p hp => ⟨by have := (c.2 p hp).1; omega, (c.2 p hp).2⟩⟩]
  exact h
 ·
  rw [if_neg c] at h; cases h
theorem slices_SortFunc_L.cmpi (a b : Int) : cmp_Compare_int.f a b = some (if a < b then -1 else if a > b then 1 else 0) := by
 unfold cmp_Compare_int.f cmp_isNaN_int.f
 simp only [Option.bind_some, bne_self_eq_false, Bool.false_eq_true, if_false]
 split
 ·
  rfl
 ·
  split <;> rfl
theorem slices_SortFunc_L.rdn (l : List Int) (i : Nat) (h : i < l.length) : rd l (i : Int) = l[i] := by
 unfold rd
 rw [show ((i : Int)).toNat = i from rfl]
 simp [h]
theorem slices_SortFunc_L.cmp_l (p q : List Int) (hp : p.length < 4611686018427387904) : ∀ (d k i : Nat), i + d = p.length → i ≤ q.length → d < k → slices_Compare_int_int.l0 k p q p (p.length : Int) i = some (if Go.Proofs.YtelkfhlnejlheaaW.Pick.cmpL (p.drop i) (q.drop i) = 0 then (if (p.length : Int) < (q.length : Int) then -1 else 0) else Go.Proofs.YtelkfhlnejlheaaW.Pick.cmpL (p.drop i) (q.drop i)) := by
 intro d
 induction d with
 | zero =>
  intro k i hd hq hk
  obtain ⟨k, rfl⟩ : ∃ m, k = m + 1 := ⟨k - 1, by omega⟩
  simp only [slices_Compare_int_int.l0]; rw [if_neg (by omega), List.drop_eq_nil_of_le (by omega)]
  by_cases h : i < q.length
  ·
   rw [List.drop_eq_getElem_cons h]
   simp only [Go.Proofs.YtelkfhlnejlheaaW.Pick.cmpL]
   rw [if_pos (by omega)]
   rfl
  ·
   rw [List.drop_eq_nil_of_le (by omega), if_neg (by omega)]
   simp only [Go.Proofs.YtelkfhlnejlheaaW.Pick.cmpL]
   rw [if_pos trivial, if_neg (by omega)]
 | succ d ih =>
  intro k i hd hq hk
  obtain ⟨k, rfl⟩ : ∃ m, k = m + 1 := ⟨k - 1, by omega⟩
  simp only [slices_Compare_int_int.l0]; rw [if_pos (by omega), if_pos (by omega), if_pos (by omega), List.drop_eq_getElem_cons (show i < p.length by omega)]
  by_cases h : i < q.length
  ·
   rw [if_neg (by omega), if_pos (by omega), slices_SortFunc_L.cmpi, Option.bind_some, slices_SortFunc_L.rdn p i (by omega), slices_SortFunc_L.rdn q i h, List.drop_eq_getElem_cons h]
   simp only [Go.Proofs.YtelkfhlnejlheaaW.Pick.cmpL]
   by_cases h1 : p[i] < q[i]
   ·
    simp only [if_pos h1]; rw [if_neg (by omega), if_neg (by omega)]
   ·
    by_cases h2 : p[i] > q[i]
    ·
     simp only [if_neg h1, if_pos h2]; rw [if_neg (by omega), if_neg (by omega)]
    ·
     simp only [if_neg h1, if_neg h2]
     rw [if_pos trivial, show wrap64 ((i : Int) + 1) = ((i + 1 : Nat) : Int) by unfold wrap64; omega]
     exact ih k (i + 1) (by omega) (by omega) (by omega)
  ·
   rw [if_pos (by omega), List.drop_eq_nil_of_le (show q.length ≤ i by omega)]
   rfl
theorem slices_SortFunc_L.cmpL_len {p q : List Int} (h : Go.Proofs.YtelkfhlnejlheaaW.Pick.cmpL p q = 0) : ¬ ((p.length : Int) < (q.length : Int)) := by
 rw [Go.Proofs.YtelkfhlnejlheaaW.Pick.cmpL_zero h]; omega
theorem slices_SortFunc_L.cmp_eq (k : Nat) (p q : List Int) (hp : p.length < 4611686018427387904) (hk : p.length < k) : slices_Compare_int_int.f k p q = some (Go.Proofs.YtelkfhlnejlheaaW.Pick.cmpL p q) := by
 unfold slices_Compare_int_int.f
 rw [show (0 : Int) = ((0 : Nat) : Int) from rfl, slices_SortFunc_L.cmp_l p q hp p.length k 0 (by omega) (by omega) hk, List.drop_zero, List.drop_zero]
 by_cases h : Go.Proofs.YtelkfhlnejlheaaW.Pick.cmpL p q = 0
 ·
  rw [if_pos h, if_neg (slices_SortFunc_L.cmpL_len h), h]
 ·
  rw [if_neg h]
set_option maxHeartbeats 4000000 in
set_option maxRecDepth 100000 in
theorem slices_SortFunc_L.calls (k : Nat) (P0_ : Nat → Prop) (u9000_ : Value) (l0 : List (List Int)) (r1 : List (List Int)) (w0 w : World) (hB : Below w0.heap.size w0 w) (ho0 : Kd.S (Kd.slice 3 (Kd.int .i64)) 25 w w0.heap.size P0_ u9000_ l0) (h : slices_SortFunc_L.f k l0 = some r1) :
  Calls Try.prog 106 #[u9000_, .func (.func 95) #[] #[]] w fun e w' => e = .returned (.tuple #[]) ∧ Kd.S (Kd.slice 3 (Kd.int .i64)) 25 w' w0.heap.size (fun k_ => (P0_ k_ ∨ w.heap.size ≤ k_)) u9000_ r1 ∧ Below w0.heap.size w0 w' ∧ Kept w w' (fun k_ => P0_ k_) := by
 unfold slices_SortFunc_L.f at h
 by_cases c : l0.length < 4611686018427387904 ∧ (∀ p ∈ l0, p.length < k ∧ p.length < 4611686018427387904)
 case neg => rw [if_neg c] at h; cases h
 rw [if_pos c] at h
 obtain rfl := Option.some.inj h
 obtain ⟨c1, c2⟩ := c
 by_cases hv : u9000_ = .slice none 0 0
 ·
  subst hv
  have hl0 : l0 = [] := by
   have := (Kd.S_reads' ho0).1
   exact List.length_eq_zero_iff.1 this.symm
  subst hl0
  have hcon := Go.Proofs.AnyF.slices_SortFunc_none (P := Try.prog) (ρ := Try.sortF_ren) { Try.sortF with } none 0 (.func (.func 95) #[] #[]) w
  change Calls Try.prog 106 _ _ _ at hcon
  refine hcon.mono ?_
  rintro e w' ⟨rfl, rfl⟩
  exact ⟨rfl, by simpa [Go.Proofs.YtelkfhlnejlheaaW.Pick.sortL] using Kd.S_nil _ _ _ _ _, hB, Kept.refl _ _⟩
 ·
  obtain ⟨inner, hil, ho, hone, hread, hk0, hpick⟩ := Go.Proofs.YtelkfhlnejlheaaW.Pick.S_open (d := Kd.slice 3 (Kd.int .i64)) rfl ho0
  have hmap : (List.range l0.length).map (fun i => inner.getD i (.slice none 0 0)) = inner := by
   apply List.ext_getElem (by simp [hil])
   intro i h1 h2
   simp [List.getD_eq_getElem?_getD, h2]
  have ho' := ho
  rw [← hmap] at ho'
  obtain ⟨g, cap, rfl, hbg, hgl, hn, hm, _, hH⟩ := Go.Lib.holds_of_ownsRow ho' hv
  have hgo : ∀ k_, some k_ ≠ (Value.slice (some ⟨g, 0, none⟩) l0.length cap).ownBlock → k_ ≠ g := fun k_ hk he => hk (by rw [he]; simp [Value.ownBlock])
  have hO : Go.Sort.SWO (Go.Proofs.ltOf fun i j : Nat => Go.Proofs.YtelkfhlnejlheaaW.Pick.cmpL (l0.getD i []) (l0.getD j [])) :=
   ⟨fun x => Go.Proofs.YtelkfhlnejlheaaW.Pick.ltL_irrefl _, fun x y z h1 h2 => Go.Proofs.YtelkfhlnejlheaaW.Pick.ltL_trans h1 h2, fun x y z h1 h2 => Go.Proofs.YtelkfhlnejlheaaW.Pick.ltL_ntrans h1 h2⟩
  have h1c : Go.Proofs.OneCell (fun i : Nat => inner.getD i (.slice none 0 0)) := fun i => by
   show (inner.getD i (.slice none 0 0)).oneCell' = true
   rw [List.getD_eq_getElem?_getD]
   by_cases hi : i < inner.length
   ·
    rw [List.getElem?_eq_getElem hi]; exact hone _ (List.getElem_mem hi)
   ·
    rw [List.getElem?_eq_none (by omega)]; rfl
  have eg : ∀ args w, (callFunc 95 args).run Try.prog w = .ok (.enter 95 args) w := enters_of Try.func95 (by kernel_rfl) rfl
  have hsame : ∀ (q : Nat) (os : Array Obj) (dk : Array Nat) (k_ : Nat), k_ < w.heap.size → k_ ≠ g → (Go.Proofs.sortWorld (fun i : Nat => inner.getD i (.slice none 0 0)) w g 0 q dk os).heap[k_]? = w.heap[k_]? := by
   intro q os dk k_ hk hne
   unfold Go.Proofs.sortWorld
   rw [Go.Sort.heap_grow_old _ _ (by simpa using hk)]
   simp [Go.Sort.putRow, Go.Sort.mapBlock, Go.Sort.ahead, Array.getElem?_modify, Ne.symm hne]
  have hrd : ∀ (i q : Nat) (os : Array Obj) (dk : Array Nat), ∃ A c, inner.getD i (.slice none 0 0) = .slice A (l0.getD i []).length c ∧ (l0.getD i []).length ≤ c ∧ Kd.C (Kd.int .i64) (Go.Proofs.sortWorld (fun i : Nat => inner.getD i (.slice none 0 0)) w g 0 q dk os) A (l0.getD i []).length (l0.getD i []) := by
   intro i q os dk
   by_cases hi : i < l0.length
   ·
    obtain ⟨cv, hcv, hF⟩ := hread i _ (List.getElem?_eq_getElem hi)
    obtain ⟨A, cc, he, hle, hC⟩ := Kd.FK_now (Kd.FK_step (W1 := Go.Proofs.sortWorld (fun i : Nat => inner.getD i (.slice none 0 0)) w g 0 q dk os) hF (fun k_ hk hlt => hsame q os dk k_ hlt (hgo k_ hk.2)))
    injection he with he _
    refine ⟨A, cc, ?_, ?_, ?_⟩
    ·
     rw [List.getD_eq_getElem?_getD, hcv, Option.getD_some, he, List.getD_eq_getElem?_getD, List.getElem?_eq_getElem hi, Option.getD_some]
    ·
     rw [List.getD_eq_getElem?_getD, List.getElem?_eq_getElem hi]; exact hle
    ·
     rw [List.getD_eq_getElem?_getD, List.getElem?_eq_getElem hi]; exact hC
   ·
    refine ⟨none, 0, ?_, ?_, ?_⟩
    ·
     rw [List.getD_eq_getElem?_getD, List.getElem?_eq_none (by omega), List.getD_eq_getElem?_getD, List.getElem?_eq_none (by omega)]; rfl
    ·
     rw [List.getD_eq_getElem?_getD, List.getElem?_eq_none (by omega)]; exact Nat.le_refl _
    ·
     rw [List.getD_eq_getElem?_getD, List.getElem?_eq_none (by omega)]; exact Kd.C_nil _ _
  have hlen : ∀ i, (l0.getD i []).length < k ∧ (l0.getD i []).length < 4611686018427387904 ∨ l0.getD i [] = [] := by
   intro i
   by_cases hi : i < l0.length
   ·
    rw [List.getD_eq_getElem?_getD, List.getElem?_eq_getElem hi]; exact .inl (c2 _ (List.getElem_mem hi))
   ·
    rw [List.getD_eq_getElem?_getD, List.getElem?_eq_none (by omega)]; exact .inr rfl
  have hcmp : Go.Proofs.CmpLays1 Try.prog 95 #[] (fun i : Nat => inner.getD i (.slice none 0 0)) (fun i j : Nat => Go.Proofs.YtelkfhlnejlheaaW.Pick.cmpL (l0.getD i []) (l0.getD j [])) g 0 (List.range l0.length).toArray.size w := by
   intro q os dk _ x y
   obtain ⟨A, cc, e1, l1, C1⟩ := hrd x q os dk
   obtain ⟨A', cc', e2, l2, C2⟩ := hrd y q os dk
   show Calls Try.prog 95 #[inner.getD x (.slice none 0 0), inner.getD y (.slice none 0 0)] _ _
   rw [e1, e2]
   have hf : slices_Compare_int_int.f (k + 1) (l0.getD x []) (l0.getD y []) = some (Go.Proofs.YtelkfhlnejlheaaW.Pick.cmpL (l0.getD x []) (l0.getD y [])) := by
    rcases hlen x with h | h
    ·
     exact slices_SortFunc_L.cmp_eq _ _ _ h.2 (by omega)
    ·
     rw [h]; exact slices_SortFunc_L.cmp_eq _ _ _ (by simp) (by simp)
   refine (slices_Compare_int_int.calls (k + 1) A cc _ A' cc' _ _ _ C1 l1 C2 l2 hf).mono ?_
   rintro e w' ⟨rfl, ⟨nd, rfl⟩⟩
   exact ⟨rfl, nd, #[], (Go.Sort.grow_empty _).symm⟩
  have hcon := Go.Proofs.Any.slices_SortFunc Try.sortF (fun i : Nat => inner.getD i (.slice none 0 0)) h1c _ hO 95 #[] g 0 cap (List.range l0.length).toArray w eg hcmp hH hgl (by simpa using c1)
  change Calls Try.prog 106 _ _ _ at hcon
  rw [show (List.range l0.length).toArray.size = l0.length by simp] at hcon
  refine hcon.mono ?_
  rintro e w' ⟨rfl, d', q, os, hp, hs, rfl⟩
  have hds : d'.size = l0.length := by rw [hp.1]; simp
  have hperm : d'.toList.Perm (List.range l0.length) := by
   have h3 := hp.2.2
   rw [Array.extract_eq_self_of_le (by omega), Array.extract_eq_self_of_le (by simp)] at h3
   exact h3
  have hnd : d'.toList.Nodup := hperm.nodup_iff.2 List.nodup_range
  have hlt : ∀ i ∈ d'.toList, i < l0.length := fun i hi => List.mem_range.1 (hperm.mem_iff.1 hi)
  have hr : (d'.toList.map fun i => l0.getD i []) = Go.Proofs.YtelkfhlnejlheaaW.Pick.sortL l0 := by
   refine Go.Proofs.YtelkfhlnejlheaaW.Pick.sortL_unique ?_ ?_
   ·
    have h4 := hperm.map (fun i => l0.getD i [])
    rwa [show (List.range l0.length).map (fun i => l0.getD i []) = l0 from by
     apply List.ext_getElem (by simp)
     intro i h1 h2
     simp [List.getD_eq_getElem?_getD, h2]] at h4
   ·
    rw [List.pairwise_map, List.pairwise_iff_getElem]
    intro i j hi hj hij
    have h5 := hs i j (Nat.zero_le _) hij (by simpa [hds] using hj)
    rw [Array.length_toList] at hi hj
    rw [getElem!_pos d' i hi, getElem!_pos d' j hj] at h5
    show (!Go.Proofs.YtelkfhlnejlheaaW.Pick.ltL _ _) = true
    rw [Bool.not_eq_true']
    exact h5
  have hg : w.grownBy (Go.Proofs.sortWorld (fun i : Nat => inner.getD i (.slice none 0 0)) w g 0 q d' os) (some g) := by
   refine ⟨rfl, rfl, rfl, by simp [Go.Proofs.sortWorld], fun k_ hk hne => hsame q os d' k_ hk (fun e => hne (by rw [e]))⟩
  refine ⟨rfl, ?_, hB.grown hg hB.size (fun j hj => by cases hj; exact hbg), Kept.of_grown hg (Kept.refl _ _) (fun k_ hk => .inl (by cases hk; exact hk0 g (by simp [Value.ownBlock])))⟩
  rw [← hr]
  refine hpick _ _ _ _ d'.toList [] (Nat.le_refl _) hnd hlt ?_ (fun k_ hk => .inl (hk0 k_ hk)) (fun k_ hok hne hb hlt2 => ⟨hsame q os d' k_ hlt2 (hgo k_ hne), .inl hok, hne⟩)
  rw [show d'.toList.length = l0.length by rw [Array.length_toList, hds]]
  obtain ⟨g', cap', cur, hvv, hb1, hb2, hb3, hb4, hb5, _⟩ : ∃ g' cap' cur, Value.slice (some ⟨g, 0, none⟩) l0.length cap = .slice (some ⟨g', 0, none⟩) l0.length cap' ∧ w0.heap.size ≤ g' ∧ w.heap[g']? = some (.cells cur 25 (0, 0)) ∧ l0.length ≤ cap' ∧ cap' ≤ maxLen ∧ cur.size = cap' * 1 ∧ True := by
   rcases ho.2 with ⟨h0, _⟩ | ⟨g', cap', cur, hv', a1, a2, a3, a4, a5, _⟩
   ·
    cases h0
   ·
    exact ⟨g', cap', cur, hv', a1, a2, a3, a4, a5, trivial⟩
  cases hvv
  refine ⟨by simp [hds], .inr ⟨g, cap, Go.Sort.putCells (fun i : Nat => inner.getD i (.slice none 0 0)) 0 d' cur, rfl, hb1, ?_, hb3, hb4, by simp [Go.Sort.putCells, hb5], ?_⟩⟩
  ·
   unfold Go.Proofs.sortWorld
   rw [Go.Sort.heap_grow_old _ _ (by simpa using hgl)]
   simp [Go.Sort.putRow, Go.Sort.mapBlock, Go.Sort.ahead, Array.getElem?_modify, hb2, Go.Sort.onCells]
  ·
   apply List.ext_getElem?
   intro j
   rw [Nat.mul_one]
   by_cases hj : j < l0.length
   ·
    rw [List.getElem?_take_of_lt hj, Array.getElem?_toList]
    have hjd : j < d'.size := by omega
    simp [Go.Sort.putCells, hjd, show j < cur.size by omega]
   ·
    rw [List.getElem?_take_eq_none (by omega), List.getElem?_eq_none (by simp; omega)]

/-! ### impl_AllComplete: function 70 -/
mutual
def impl_AllComplete.l0 : Nat → List (List Int) → Int → Int → Int → List (List Int) → Option ((List (List Int)))
 | 0, _, _, _, _, _ => none
 | k + 1, x3, x14, x15, x401000, x401001 => if x15 < x14 then (impl_AllComplete.l1 k x3 x15 (([] : List Int)) x14 x15 x401000 0 x401000 x401001) else ((slices_SortFunc_L.f k x3).bind fun t405 => (some t405))
def impl_AllComplete.l1 : Nat → List (List Int) → Int → List Int → Int → Int → Int → Int → Int → List (List Int) → Option ((List (List Int)))
 | 0, _, _, _, _, _, _, _, _, _ => none
 | k + 1, x3, x4, x5, x14, x15, x20, x21, x401000, x401001 => if x21 < x20 then (if 0 ≤ x21 then (if (Go.bits .and .i64 (shr .i64 x4 x21) 1) = 1 then (if x5.length < 17592186044416 then (impl_AllComplete.l1 k x3 x4 (x5 ++ [x21]) x14 x15 x20 (wrap64 (x21 + 1)) x401000 x401001) else (none)) else (impl_AllComplete.l1 k x3 x4 x5 x14 x15 x20 (wrap64 (x21 + 1)) x401000 x401001)) else (none)) else ((impl_IsComplete.f k x401000 x401001 x5).bind fun t412 => (if t412 = true then (if x3.length < 5864062014805 then (impl_AllComplete.l0 k (x3 ++ [x5]) x14 (wrap64 (x15 + 1)) x401000 x401001) else (none)) else (impl_AllComplete.l0 k x3 x14 (wrap64 (x15 + 1)) x401000 x401001)))
end
def impl_AllComplete.f (k : Nat) (a0_0 : Int) (l0_1 : List (List Int)) : Option ((List (List Int))) := (some (([] : List (List Int)) : List (List Int))).bind fun y401 => ((impl_IsGraph.f k a0_0 l0_1).bind fun t404 => (if t404 = true then (if 0 ≤ a0_0 then (impl_AllComplete.l0 k y401 (shl .i64 1 a0_0) 0 a0_0 l0_1) else (none)) else (some y401)))
theorem impl_AllComplete.mono_l : ∀ k, (∀ y0 y1 y2 y3 y4, LeO (impl_AllComplete.l0 k y0 y1 y2 y3 y4) (impl_AllComplete.l0 (k + 1) y0 y1 y2 y3 y4)) ∧ (∀ y0 y1 y2 y3 y4 y5 y6 y7 y8, LeO (impl_AllComplete.l1 k y0 y1 y2 y3 y4 y5 y6 y7 y8) (impl_AllComplete.l1 (k + 1) y0 y1 y2 y3 y4 y5 y6 y7 y8))
 | 0 => ⟨fun _ _ _ _ _ r h => by simp [impl_AllComplete.l0] at h, fun _ _ _ _ _ _ _ _ _ r h => by simp [impl_AllComplete.l1] at h⟩
 | k + 1 => by
  obtain ⟨ih0, ih1⟩ := impl_AllComplete.mono_l k
  refine ⟨?_, ?_⟩
  ·
   intro y0 y1 y2 y3 y4
   unfold impl_AllComplete.l0
   repeat' with_reducible first | exact ih0 _ _ _ _ _ | exact ih1 _ _ _ _ _ _ _ _ _ | exact impl_IsComplete.mono _ _ _ _ | exact impl_IsGraph.mono _ _ _ | exact slices_SortFunc_L.mono _ _ | exact LeO.refl _ | exact LeO.none _ | refine LeO.ite ?_ ?_ | refine LeO.bind ?_ (fun _ => ?_)
  ·
   intro y0 y1 y2 y3 y4 y5 y6 y7 y8
   unfold impl_AllComplete.l1
   repeat' with_reducible first | exact ih0 _ _ _ _ _ | exact ih1 _ _ _ _ _ _ _ _ _ | exact impl_IsComplete.mono _ _ _ _ | exact impl_IsGraph.mono _ _ _ | exact slices_SortFunc_L.mono _ _ | exact LeO.refl _ | exact LeO.none _ | refine LeO.ite ?_ ?_ | refine LeO.bind ?_ (fun _ => ?_)
theorem impl_AllComplete.mono : ∀ a0 a1 k, LeO (impl_AllComplete.f k a0 a1) (impl_AllComplete.f (k + 1) a0 a1) := by
 intro a0 a1 k
 obtain ⟨ih0, ih1⟩ := impl_AllComplete.mono_l k
 unfold impl_AllComplete.f
 repeat' with_reducible first | exact ih0 _ _ _ _ _ | exact ih1 _ _ _ _ _ _ _ _ _ | exact impl_IsComplete.mono _ _ _ _ | exact impl_IsGraph.mono _ _ _ | exact slices_SortFunc_L.mono _ _ | exact LeO.refl _ | exact LeO.none _ | refine LeO.ite ?_ ?_ | refine LeO.bind ?_ (fun _ => ?_)
set_option maxHeartbeats 8000000 in
set_option maxRecDepth 100000 in
theorem impl_AllComplete.calls (k : Nat) (a0_0 : Int) (A0_1 : Option Addr) (c0_1 : Nat) (l0_1 : List (List Int)) (r : List (List Int)) (w : World) (hr0_1 : Kd.C (Kd.slice 3 (Kd.int .i64)) w A0_1 l0_1.length l0_1) (hc0_1 : l0_1.length ≤ c0_1) (h : impl_AllComplete.f k a0_0 l0_1 = some r) :
  Calls Try.prog 70 #[.agg #[.int .i64 a0_0, .slice A0_1 l0_1.length c0_1]] w fun e w' => ∃ v0_ : Value, e = .returned (v0_) ∧ Kd.S (Kd.slice 3 (Kd.int .i64)) 25 w' w.heap.size (fun _ => True) v0_ r ∧ Below w.heap.size w w' := by
 have hu28 := Try.underlying28
 have HR0_1 := Aside0.mk hr0_1
 have HC0_1 := Aside0.mk hc0_1
 clear hr0_1 hc0_1
 have HB := Aside0.mk (Below.refl w.heap.size w)
 have H : ((some (([] : List (List Int)) : List (List Int))).bind fun y401 => ((impl_IsGraph.f k a0_0 l0_1).bind fun t404 => (if t404 = true then (if 0 ≤ a0_0 then (impl_AllComplete.l0 k y401 (shl .i64 1 a0_0) 0 a0_0 l0_1) else (none)) else (some y401)))) = some r := h
 clear h
 obtain ⟨y401, hy401⟩ : ∃ y_ : List (List Int), y_ = (([] : List (List Int))) := ⟨_, rfl⟩
 replace H : ((impl_IsGraph.f k a0_0 l0_1).bind fun t404 => (if t404 = true then (if 0 ≤ a0_0 then (impl_AllComplete.l0 k y401 (shl .i64 1 a0_0) 0 a0_0 l0_1) else (none)) else (some y401))) = some r := by first | (rw [hy401]; with_reducible exact H) | (have H2_ := (Option.bind_some _ _).symm.trans H; rw [hy401]; with_reducible exact H2_) | (have H2_ := (Option.bind_some _ _).symm.trans H; with_reducible exact H2_) | with_reducible exact H | (rw [hy401]; exact H) | exact H
 have Ny401 := Aside0.mk hy401
 clear hy401
 replace H := Option.bind_eq_some_iff.mp H
 obtain ⟨t404, A20, H⟩ := H
 have A2 := Aside0.mk A20
 clear A20
 by_cases c3 : t404 = true
 rotate_left
 ·
  replace c3 := Bool.eq_false_iff.mpr c3
  subst c3
  rw [if_neg (show ¬ (false = true) by decide)] at H
  obtain rfl := Option.some.inj H
  go_enter Try.func70, Try.ntmps70
  go_wp2_with (first | ((with_reducible refine gate_dst (N := 1) rfl ?_); refine box_event ?hg (N := 1) ?hd (cs := #[.int .i64 a0_0, .slice A0_1 l0_1.length c0_1]) (t := 28) ?hr ?_; (case hd => rfl); (case hg => rfl); (case hr => first | (go_simp; done) | (go_simp; rfl)); intro gb400 hg w35 hbox hb; have n0_ := Aside0.mk (below_step (mB HB.out) hb); have n1_ := Aside0.mk (hbox); have n2_ := Aside0.mk ((by rw [hg]; exact (below_size (mB HB.out)) : w.heap.size ≤ gb400)); have n3_ := Aside0.mk ((by rw [hg]; exact (below_size (mB HB.out)) : w.heap.size ≤ gb400)); clear HB; have HB := n0_; have BK400 := n1_; have GW400 := n2_; have GE400 := n3_; clear n0_ n1_ n2_ n3_; clear hb hbox hg) | ((with_reducible refine gate_dst (N := 7) rfl ?_); refine Kd.S_lit (Kd.slice 3 (Kd.int .i64)) _ 25 ?hg (N := 7) ?hd (xs := ([] : List (List Int))) (inner := []) (ok := fun _ => True) (okp := fun _ => True) ?hr ?hp (fun _ hk => hk) trivial (Below.refl _ _) (Nat.le_refl _) (by simp) ?_; (case hd => rfl); (case hg => rfl); (case hr => first | (go_simp; done) | (go_simp; rfl)); (case hp => exact (Reps.none _ _)); intro v402 w36 ho37 hb hg_ hnew_; clear hg_ hnew_; (first | rw [← Ny401.out] at ho37 | (simp only [Int.reduceToNat] at ho37; rw [← Ny401.out] at ho37)); have n0_ := Aside0.mk (Kd.S_lower ho37 (below_size mG)); have n1_ := Aside0.mk (blk_below (g := gb400) (o := .cells #[.int .i64 a0_0, .slice A0_1 l0_1.length c0_1] 28 (0, 0)) ((mK (BK400.out))) hb); have n2_ := Aside0.mk (below_step mG hb); clear BK400 HB; have HO403 := n0_; have BK400 := n1_; have HB := n2_; clear n0_ n1_ n2_; clear hb ho37; have hcz38_0 : w36.cell? ⟨gb400, 0, none⟩ = some (.int .i64 a0_0) := (blk_cell BK400.out 0).trans rfl; have hcz38_1 : w36.cell? ⟨gb400, 1, none⟩ = some (.slice A0_1 l0_1.length c0_1) := (blk_cell BK400.out 1).trans rfl; have hfz38_0 := blk_frozen BK400.out 0; have hfz38_1 := blk_frozen BK400.out 1) | ((with_reducible refine gate_callee (f := 49) rfl ?_); refine goesL_ (some 9) rfl rfl Try.func49 (by kernel_rfl) rfl #[.agg #[.int .i64 a0_0, .slice A0_1 l0_1.length c0_1]] rfl mA ?_; (with_reducible refine (impl_IsGraph.calls k a0_0 _ _ l0_1 false _ ?side1 ?side2 A2.out).mono ?_); (case side1 => exact mC (Kd.C_below HR0_1.out HB.out)); (case side2 => exact HC0_1.out); rintro e w39 ⟨rfl, hb⟩; refine ⟨_, rfl, ?_⟩; have n0_ := Aside0.mk (Kd.S_below (mS HO403.out) hb); have n1_ := Aside0.mk (blk_below (g := gb400) (o := .cells #[.int .i64 a0_0, .slice A0_1 l0_1.length c0_1] 28 (0, 0)) ((mK (BK400.out))) hb); have n2_ := Aside0.mk (below_step mG hb); clear HO403 BK400 HB; have HO403 := n0_; have BK400 := n1_; have HB := n2_; clear n0_ n1_ n2_; (try clear hb)))
  go_ret
  exact ⟨_, mE, by (with_reducible repeat (first | apply Kd.S_alloc | apply Kd.S_drewN | apply Kd.S_drew)); exact HO403.out, mG⟩
 subst c3
 rw [if_pos rfl] at H
 by_cases c4 : 0 ≤ a0_0
 rotate_left
 ·
  rw [if_neg c4] at H
  exact absurd H (by simp)
 rw [if_pos c4] at H
 have c4b0 := eq_true c4
 have c4b1 : decide (0 ≤ a0_0) = true := decide_eq_true c4
 clear c4
 obtain ⟨ji5, hji5⟩ : ∃ j_ : Int, (shl .i64 1 a0_0) = j_ := ⟨_, rfl⟩
 replace H : (impl_AllComplete.l0 k y401 ji5 0 a0_0 l0_1) = some r := by first | (rw [hji5] at H; exact H) | (simp only [hji5] at H ⊢; exact H)
 (try rw [hji5] at A2)
 have hji5_ : (IntKind.i64.wrap (1 * 2 ^ min a0_0.toNat 64)) = ji5 := hji5
 have hji5z : a0_0 ≤ 64 → (IntKind.i64.wrap (1 * 2 ^ a0_0.toNat)) = ji5 := shl_small hji5
 have hji5u : (IntKind.i64.wrap (2 ^ min a0_0.toNat 64)) = ji5 := by have h_ := hji5_; rw [Int.one_mul] at h_; exact h_
 have hji5v : a0_0 ≤ 64 → (IntKind.i64.wrap (2 ^ a0_0.toNat)) = ji5 := fun hle_ => by have h_ := hji5z hle_; rw [Int.one_mul] at h_; exact h_
 have hji5y : (wrap64 (1 * 2 ^ min a0_0.toNat 64)) = ji5 := (i64_w _).symm.trans hji5_
 have hji5x : a0_0 ≤ 64 → (wrap64 (1 * 2 ^ a0_0.toNat)) = ji5 := fun h_ => (i64_w _).symm.trans (hji5z h_)
 have H' := Aside0.mk H
 clear H
 go_enter Try.func70, Try.ntmps70
 go_wp2_with (first | ((with_reducible refine gate_dst (N := 1) rfl ?_); refine box_event ?hg (N := 1) ?hd (cs := #[.int .i64 a0_0, .slice A0_1 l0_1.length c0_1]) (t := 28) ?hr ?_; (case hd => rfl); (case hg => rfl); (case hr => first | (go_simp; done) | (go_simp; rfl)); intro gb400 hg w6 hbox hb; have n0_ := Aside0.mk (below_step (mB HB.out) hb); have n1_ := Aside0.mk (hbox); have n2_ := Aside0.mk ((by rw [hg]; exact (below_size (mB HB.out)) : w.heap.size ≤ gb400)); have n3_ := Aside0.mk ((by rw [hg]; exact (below_size (mB HB.out)) : w.heap.size ≤ gb400)); clear HB; have HB := n0_; have BK400 := n1_; have GW400 := n2_; have GE400 := n3_; clear n0_ n1_ n2_ n3_; clear hb hbox hg) | ((with_reducible refine gate_dst (N := 7) rfl ?_); refine Kd.S_lit (Kd.slice 3 (Kd.int .i64)) _ 25 ?hg (N := 7) ?hd (xs := ([] : List (List Int))) (inner := []) (ok := fun _ => True) (okp := fun _ => True) ?hr ?hp (fun _ hk => hk) trivial (Below.refl _ _) (Nat.le_refl _) (by simp) ?_; (case hd => rfl); (case hg => rfl); (case hr => first | (go_simp; done) | (go_simp; rfl)); (case hp => exact (Reps.none _ _)); intro v402 w7 ho8 hb hg_ hnew_; clear hg_ hnew_; (first | rw [← Ny401.out] at ho8 | (simp only [Int.reduceToNat] at ho8; rw [← Ny401.out] at ho8)); have n0_ := Aside0.mk (Kd.S_lower ho8 (below_size mG)); have n1_ := Aside0.mk (blk_below (g := gb400) (o := .cells #[.int .i64 a0_0, .slice A0_1 l0_1.length c0_1] 28 (0, 0)) ((mK (BK400.out))) hb); have n2_ := Aside0.mk (below_step mG hb); clear BK400 HB; have HO403 := n0_; have BK400 := n1_; have HB := n2_; clear n0_ n1_ n2_; clear hb ho8; have hcz9_0 : w7.cell? ⟨gb400, 0, none⟩ = some (.int .i64 a0_0) := (blk_cell BK400.out 0).trans rfl; have hcz9_1 : w7.cell? ⟨gb400, 1, none⟩ = some (.slice A0_1 l0_1.length c0_1) := (blk_cell BK400.out 1).trans rfl; have hfz9_0 := blk_frozen BK400.out 0; have hfz9_1 := blk_frozen BK400.out 1) | ((with_reducible refine gate_callee (f := 49) rfl ?_); refine goesL_ (some 9) rfl rfl Try.func49 (by kernel_rfl) rfl #[.agg #[.int .i64 a0_0, .slice A0_1 l0_1.length c0_1]] rfl mA ?_; (with_reducible refine (impl_IsGraph.calls k a0_0 _ _ l0_1 true _ ?side1 ?side2 A2.out).mono ?_); (case side1 => exact mC (Kd.C_below HR0_1.out HB.out)); (case side2 => exact HC0_1.out); rintro e w10 ⟨rfl, hb⟩; refine ⟨_, rfl, ?_⟩; have n0_ := Aside0.mk (Kd.S_below (mS HO403.out) hb); have n1_ := Aside0.mk (blk_below (g := gb400) (o := .cells #[.int .i64 a0_0, .slice A0_1 l0_1.length c0_1] 28 (0, 0)) ((mK (BK400.out))) hb); have n2_ := Aside0.mk (below_step mG hb); clear HO403 BK400 HB; have HO403 := n0_; have BK400 := n1_; have HB := n2_; clear n0_ n1_ n2_; (try clear hb); have hcz11_0 : w10.cell? ⟨gb400, 0, none⟩ = some (.int .i64 a0_0) := (blk_cell BK400.out 0).trans rfl; have hcz11_1 : w10.cell? ⟨gb400, 1, none⟩ = some (.slice A0_1 l0_1.length c0_1) := (blk_cell BK400.out 1).trans rfl; have hfz11_0 := blk_frozen BK400.out 0; have hfz11_1 := blk_frozen BK400.out 1))
 go_loopg [3, 15] k (fun kq v3 v15 w' => ∃ (x3_1 : List (List Int)) (x15_1 : Int), v15 = .int .i64 x15_1 ∧ Aside0 (impl_AllComplete.l0 kq x3_1 ji5 x15_1 a0_0 l0_1 = some r) ∧ Aside0 (kq ≤ k) ∧ Aside0 (Kd.S (Kd.slice 3 (Kd.int .i64)) 25 w' w.heap.size (fun _ => True) v3 x3_1) ∧ Aside0 (w'.heap[gb400]? = some (.cells #[.int .i64 a0_0, (.slice A0_1 l0_1.length c0_1)] 28 (0, 0))) ∧ Aside0 (Below w.heap.size w w'))
 case atStart => exact ⟨(y401), (0), mF, H', ⟨Nat.le_refl _⟩, ⟨mS HO403.out⟩, ⟨(mK (BK400.out))⟩, ⟨mG⟩⟩
 case round =>
  clear H'
  (try clear c4b0); (try clear c4b1); (try clear hcz11_0); (try clear hcz11_1); (try clear hcz9_0); (try clear hcz9_1); (try clear hfz11_0); (try clear hfz11_1); (try clear hfz9_0); (try clear hfz9_1)
  obtain ⟨x3_1, x15_1, rfl, HA, HK1, HO_3, BK400, HB⟩ := hrel
  cases gk with
  | zero => exact absurd HA.out (by simp [impl_AllComplete.l0])
  | succ k1 =>
   have H := HA.out
   clear HA
   simp only [impl_AllComplete.l0] at H
   by_cases c12 : x15_1 < ji5
   rotate_left
   ·
    rw [if_neg c12] at H
    have c12b0 : decide (x15_1 < ji5) = false := decide_eq_false c12
    clear c12
    replace H := Option.bind_eq_some_iff.mp H
    obtain ⟨t405, A320, H⟩ := H
    have A32 := Aside0.mk A320
    clear A320
    obtain rfl := Option.some.inj H
    obtain ⟨Ao33, co33, eo33⟩ := Kd.S_slice HO_3.out
    subst eo33
    go_wp2_with (first | ((with_reducible refine gate_callee (f := 106) rfl ?_); refine goesL_ (some 43) rfl rfl Try.func106 (by kernel_rfl) rfl #[.slice Ao33 x3_1.length co33, .func (.func 95) #[] #[]] rfl mA ?_; (with_reducible refine (slices_SortFunc_L.calls k1 ?pz_ (.slice Ao33 x3_1.length co33) x3_1 t405 w _ ?side1 ?side2 A32.out).mono ?_); (case side1 => repeat (first | (with_reducible first | exact HB.out | apply below_alloc | apply pw_below_drewN | apply below_drew1 | refine below_set ?_ GE400.out) | exact HB.out)); (case side2 => exact Kd.S_bound HO_3.out); rintro e w34 ⟨rfl, hy0, hb, hkp⟩; refine ⟨_, rfl, ?_⟩; have n0_ := Aside0.mk (Kd.S_mono (ok' := fun _ => True) hy0 (fun _ _ => trivial)); have n1_ := Aside0.mk (blk_kept ((mK (BK400.out))) hkp (fun hs_ => (fun p_ => Go.Proofs.YtelkfhlnejlheaaW.Marks.bound_ne p_.2.2.2 BK400.out (by decide)) hs_)); have n2_ := Aside0.mk (hb); clear HO_3 BK400 HB; have HO_3 := n0_; have BK400 := n1_; have HB := n2_; clear n0_ n1_ n2_; (try clear hb); (try clear hkp); (try clear hy0)))
    go_ret
    exact ⟨_, by first | rfl | (simp [errW_none, errW_some] <;> rfl) | (simp only [← hji5]; first | rfl | (simp [errW_none, errW_some] <;> rfl)) | (simp [*, errW_none, errW_some] <;> rfl), by (with_reducible repeat (first | apply Kd.S_alloc | apply Kd.S_drewN | apply Kd.S_drew)); exact HO_3.out, mG⟩
   rw [if_pos c12] at H
   have c12b0 : decide (x15_1 < ji5) = true := decide_eq_true c12
   clear c12
   obtain ⟨y406, hy406⟩ : ∃ y_ : List Int, y_ = (([] : List Int)) := ⟨_, rfl⟩
   replace H : (impl_AllComplete.l1 k1 x3_1 x15_1 y406 ji5 x15_1 a0_0 0 a0_0 l0_1) = some r := by first | (rw [hy406]; with_reducible exact H) | (have H2_ := (Option.bind_some _ _).symm.trans H; rw [hy406]; with_reducible exact H2_) | (have H2_ := (Option.bind_some _ _).symm.trans H; with_reducible exact H2_) | with_reducible exact H | (rw [hy406]; exact H) | exact H
   have Ny406 := Aside0.mk hy406
   clear hy406
   have H' := Aside0.mk H
   clear H
   go_wp2_with (first | ((with_reducible refine gate_dst (N := 18) rfl ?_); refine Kd.R_lit (Kd.int .i64) _ 3 ?hg (N := 18) ?hd (xs := ([] : List Int)) (inner := []) (ok := fun _ => True) (okp := fun _ => True) ?hr ?hp (fun _ hk => hk) trivial (Below.refl _ _) (Nat.le_refl _) (by simp) ?_; (case hd => rfl); (case hg => rfl); (case hr => first | (go_simp; done) | (go_simp; rfl)); (case hp => exact (Reps.none _ _)); intro v407 w13 ho14 hb hg_ hnew_; clear hg_ hnew_; (first | rw [← Ny406.out] at ho14 | (simp only [Int.reduceToNat] at ho14; rw [← Ny406.out] at ho14)); have n0_ := Aside0.mk (Kd.S_elder' (mS HO_3.out) (Kd.R_base ho14) hb); have n1_ := Aside0.mk (Kd.R_lower ho14 (below_size mG)); have n2_ := Aside0.mk (blk_below (g := gb400) (o := .cells #[.int .i64 a0_0, .slice A0_1 l0_1.length c0_1] 28 (0, 0)) ((mK (BK400.out))) hb); have n3_ := Aside0.mk (below_step mG hb); clear HO_3 BK400 HB; have HO_3 := n0_; have HO408 := n1_; have BK400 := n2_; have HB := n3_; clear n0_ n1_ n2_ n3_; clear hb ho14; have hcz15_0 : w13.cell? ⟨gb400, 0, none⟩ = some (.int .i64 a0_0) := (blk_cell BK400.out 0).trans rfl; have hcz15_1 : w13.cell? ⟨gb400, 1, none⟩ = some (.slice A0_1 l0_1.length c0_1) := (blk_cell BK400.out 1).trans rfl; have hfz15_0 := blk_frozen BK400.out 0; have hfz15_1 := blk_frozen BK400.out 1))
   go_loopg [5, 21] k1 (fun kq v5 v21 w' => ∃ (x5_2 : List Int) (x21_2 : Int), v21 = .int .i64 x21_2 ∧ Aside0 (impl_AllComplete.l1 kq x3_1 x15_1 x5_2 ji5 x15_1 a0_0 x21_2 a0_0 l0_1 = some r) ∧ Aside0 (kq ≤ k1) ∧ Aside0 (Kd.S (Kd.slice 3 (Kd.int .i64)) 25 w' w.heap.size (fun k_ => some k_ ≠ (v5 : Value).ownBlock) u3 x3_1) ∧ Aside0 (Kd.R (Kd.int .i64) 3 w' w.heap.size (fun _ => True) v5 x5_2) ∧ Aside0 (w'.heap[gb400]? = some (.cells #[.int .i64 a0_0, (.slice A0_1 l0_1.length c0_1)] 28 (0, 0))) ∧ Aside0 (Below w.heap.size w w'))
   case atStart => exact ⟨(y406), (0), mF, H', ⟨Nat.le_refl _⟩, ⟨by (with_reducible repeat (first | apply Kd.S_alloc | apply Kd.S_drewN | apply Kd.S_drew)); exact Kd.S_mono HO_3.out (fun _ hk => hk.2)⟩, ⟨mR HO408.out⟩, ⟨(mK (BK400.out))⟩, ⟨mG⟩⟩
   case round =>
    clear H'
    (try clear c4b0); (try clear c4b1); (try clear c12b0); (try clear hcz11_0); (try clear hcz11_1); (try clear hcz15_0); (try clear hcz15_1); (try clear hcz9_0); (try clear hcz9_1); (try clear hfz11_0); (try clear hfz11_1); (try clear hfz15_0); (try clear hfz15_1); (try clear hfz9_0); (try clear hfz9_1)
    obtain ⟨x5_2, x21_2, rfl, HA, HK2, HO_3, HO_5, BK400, HB⟩ := hrel
    cases gk with
    | zero => exact absurd HA.out (by simp [impl_AllComplete.l1])
    | succ k2 =>
     have H := HA.out
     clear HA
     simp only [impl_AllComplete.l1] at H
     by_cases c16 : x21_2 < a0_0
     ·
      rw [if_pos c16] at H
      have c16b0 : decide (x21_2 < a0_0) = true := decide_eq_true c16
      clear c16
      by_cases c17 : 0 ≤ x21_2
      rotate_left
      ·
       rw [if_neg c17] at H
       exact absurd H (by simp)
      rw [if_pos c17] at H
      have c17b0 := eq_true c17
      have c17b1 : decide (0 ≤ x21_2) = true := decide_eq_true c17
      clear c17
      obtain ⟨ji18, hji18⟩ : ∃ j_ : Int, (shr .i64 x15_1 x21_2) = j_ := ⟨_, rfl⟩
      replace H : (if (Go.bits .and .i64 (ji18) 1) = 1 then (if x5_2.length < 17592186044416 then (impl_AllComplete.l1 k2 x3_1 x15_1 (x5_2 ++ [x21_2]) ji5 x15_1 a0_0 (wrap64 (x21_2 + 1)) a0_0 l0_1) else (none)) else (impl_AllComplete.l1 k2 x3_1 x15_1 x5_2 ji5 x15_1 a0_0 (wrap64 (x21_2 + 1)) a0_0 l0_1)) = some r := by first | (rw [hji18] at H; exact H) | (simp only [hji18] at H ⊢; exact H)
      have hji18_ : (x15_1 / 2 ^ min x21_2.toNat 64) = ji18 := hji18
      have hji18z : x21_2 ≤ 64 → (x15_1 / 2 ^ x21_2.toNat) = ji18 := shr_small hji18
      by_cases c19 : (Go.bits .and .i64 (ji18) 1) = 1
      rotate_left
      ·
       rw [if_neg c19] at H
       have c19b0 : ((Go.bits .and .i64 (ji18) 1) == 1) = false := beq_eq_false_iff_ne.mpr c19
       have c19b1 : ((Go.bits .and .i64 (ji18) 1) != 1) = true := bne_iff_ne.mpr c19
       have H' := Aside0.mk H
       clear H
       go_wp2
       go_roundg k2
       case measure => have := HK1.out; have := HK2.out; omega
       case rel => exact ⟨(x5_2), (wrap64 (x21_2 + 1)), mF, H', ⟨by have := HK1.out; have := HK2.out; omega⟩, ⟨mS HO_3.out⟩, ⟨mR HO_5.out⟩, ⟨(mK (BK400.out))⟩, ⟨mG⟩⟩
      rw [if_pos c19] at H
      have c19b0 : ((Go.bits .and .i64 (ji18) 1) == 1) = true := beq_iff_eq.mpr c19
      have c19b1 : ((Go.bits .and .i64 (ji18) 1) != 1) = false := bne_eq_false_iff_eq.mpr c19
      clear c19
      by_cases c20 : x5_2.length < 17592186044416
      rotate_left
      ·
       rw [if_neg c20] at H
       exact absurd H (by simp)
      rw [if_pos c20] at H
      have LMc20 := Aside0.mk c20
      clear c20
      obtain ⟨y409, hy409⟩ : ∃ y_ : List Int, y_ = (x5_2 ++ [x21_2]) := ⟨_, rfl⟩
      replace H : (impl_AllComplete.l1 k2 x3_1 x15_1 y409 ji5 x15_1 a0_0 (wrap64 (x21_2 + 1)) a0_0 l0_1) = some r := by first | (rw [hy409]; with_reducible exact H) | (have H2_ := (Option.bind_some _ _).symm.trans H; rw [hy409]; with_reducible exact H2_) | (have H2_ := (Option.bind_some _ _).symm.trans H; with_reducible exact H2_) | with_reducible exact H | (rw [hy409]; exact H) | exact H
      have Ny409 := Aside0.mk hy409
      clear hy409
      have H' := Aside0.mk H
      clear H
      go_wp2_with (first | ((with_reducible refine gate_builtin (b := .append) (xs := #[.tmp 29, .tmp 31]) rfl ?_); at_builtin; refine Kd.R_append (Kd.int .i64) (w0 := w) w.heap.size rfl (.tmp 29) (.tmp 31) 25 3 (.int .i64 0) 8 rfl Try.underlying25 info3 rfl (by decide) (by omega) u5 x5_2 x21_2 [.int .i64 x21_2] (fun _ => True) (fun _ => False) rfl rfl ?aP (fun _ hk => hk.elim) ?aF ?aO ?aB ?aS ?aL ?_; (case aP => exact rfl); (case aB => exact mG); (case aF => exact (fun _ _ => trivial)); (case aO => exact (mR HO_5.out)); (case aS => exact (below_size mG)); (case aL => have := LMc20.out; omega); intro v410 w21 ho hb hg hat; rw [← Ny409.out] at ho; have n0_ := Aside0.mk (Kd.S_after (ok := (fun _ => True)) (mS (Kd.S_mono HO_3.out (fun _ hk => ⟨trivial, hk⟩))) hg hat); have n1_ := Aside0.mk (blk_grown (g := gb400) (o := .cells #[.int .i64 a0_0, .slice A0_1 l0_1.length c0_1] 28 (0, 0)) ((mK (BK400.out))) hg (Kd.R_ne HO_5.out BK400.out (by decide))); have n2_ := Aside0.mk (hb); have n3_ := Aside0.mk (ho); clear HO_3 BK400 HB HO_5; have HO_3 := n0_; have BK400 := n1_; have HB := n2_; have HO411 := n3_; clear n0_ n1_ n2_ n3_; clear ho hb hg hat))
      go_roundg k2
      case measure => have := HK1.out; have := HK2.out; omega
      case rel => exact ⟨(y409), (wrap64 (x21_2 + 1)), mF, H', ⟨by have := HK1.out; have := HK2.out; omega⟩, ⟨by (with_reducible repeat (first | apply Kd.S_alloc | apply Kd.S_drewN | apply Kd.S_drew)); exact Kd.S_mono HO_3.out (fun _ hk => hk.2)⟩, ⟨mR HO411.out⟩, ⟨(mK (BK400.out))⟩, ⟨mG⟩⟩
     rw [if_neg c16] at H
     have c16b0 : decide (x21_2 < a0_0) = false := decide_eq_false c16
     clear c16
     replace H := Option.bind_eq_some_iff.mp H
     obtain ⟨t412, A220, H⟩ := H
     have A22 := Aside0.mk A220
     clear A220
     by_cases c23 : t412 = true
     rotate_left
     ·
      replace c23 := Bool.eq_false_iff.mpr c23
      subst c23
      rw [if_neg (show ¬ (false = true) by decide)] at H
      have H' := Aside0.mk H
      clear H
      have hcz29_0 : wr.cell? ⟨gb400, 0, none⟩ = some (.int .i64 a0_0) := (blk_cell BK400.out 0).trans rfl
      have hcz29_1 : wr.cell? ⟨gb400, 1, none⟩ = some (.slice A0_1 l0_1.length c0_1) := (blk_cell BK400.out 1).trans rfl
      have hfz29_0 := blk_frozen BK400.out 0
      have hfz29_1 := blk_frozen BK400.out 1
      obtain ⟨Ao30, co30, eo30⟩ := Kd.R_slice HO_5.out
      subst eo30
      go_wp2_with (first | ((with_reducible refine gate_callee (f := 43) rfl ?_); refine goesL_ (some 36) rfl rfl Try.func43 (by kernel_rfl) rfl #[.agg #[.int .i64 a0_0, .slice A0_1 l0_1.length c0_1], .slice Ao30 x5_2.length co30] rfl mA ?_; (with_reducible refine (impl_IsComplete.calls k2 a0_0 _ _ l0_1 _ _ x5_2 false _ ?side1 ?side2 ?side3 ?side4 A22.out).mono ?_); (case side1 => exact mC (Kd.C_below HR0_1.out HB.out)); (case side2 => exact HC0_1.out); (case side3 => exact mC (Kd.R_reads' HO_5.out).2.2); (case side4 => exact (Kd.R_reads' HO_5.out).2.1); rintro e w31 ⟨rfl, hb⟩; refine ⟨_, rfl, ?_⟩; have n0_ := Aside0.mk (Kd.S_below (mS HO_3.out) hb); have n1_ := Aside0.mk (Kd.R_below (mR HO_5.out) hb); have n2_ := Aside0.mk (blk_below (g := gb400) (o := .cells #[.int .i64 a0_0, .slice A0_1 l0_1.length c0_1] 28 (0, 0)) ((mK (BK400.out))) hb); have n3_ := Aside0.mk (below_step mG hb); clear HO_3 HO_5 BK400 HB; have HO_3 := n0_; have HO_5 := n1_; have BK400 := n2_; have HB := n3_; clear n0_ n1_ n2_ n3_; (try clear hb)))
      go_roundg k2
      case measure => have := HK1.out; have := HK2.out; omega
      case rel => exact ⟨(x3_1), (wrap64 (x15_1 + 1)), mF, H', ⟨by have := HK1.out; have := HK2.out; omega⟩, ⟨by (with_reducible repeat (first | apply Kd.S_alloc | apply Kd.S_drewN | apply Kd.S_drew)); exact Kd.S_mono HO_3.out (fun _ hk => trivial)⟩, ⟨(mK (BK400.out))⟩, ⟨mG⟩⟩
     subst c23
     rw [if_pos rfl] at H
     by_cases c24 : x3_1.length < 5864062014805
     rotate_left
     ·
      rw [if_neg c24] at H
      exact absurd H (by simp)
     rw [if_pos c24] at H
     have LMc24 := Aside0.mk c24
     clear c24
     obtain ⟨y413, hy413⟩ : ∃ y_ : List (List Int), y_ = (x3_1 ++ [x5_2]) := ⟨_, rfl⟩
     replace H : (impl_AllComplete.l0 k2 y413 ji5 (wrap64 (x15_1 + 1)) a0_0 l0_1) = some r := by first | (rw [hy413]; with_reducible exact H) | (have H2_ := (Option.bind_some _ _).symm.trans H; rw [hy413]; with_reducible exact H2_) | (have H2_ := (Option.bind_some _ _).symm.trans H; with_reducible exact H2_) | with_reducible exact H | (rw [hy413]; exact H) | exact H
     have Ny413 := Aside0.mk hy413
     clear hy413
     have H' := Aside0.mk H
     clear H
     have hcz25_0 : wr.cell? ⟨gb400, 0, none⟩ = some (.int .i64 a0_0) := (blk_cell BK400.out 0).trans rfl
     have hcz25_1 : wr.cell? ⟨gb400, 1, none⟩ = some (.slice A0_1 l0_1.length c0_1) := (blk_cell BK400.out 1).trans rfl
     have hfz25_0 := blk_frozen BK400.out 0
     have hfz25_1 := blk_frozen BK400.out 1
     obtain ⟨Ao26, co26, eo26⟩ := Kd.R_slice HO_5.out
     subst eo26
     go_wp2_with (first | ((with_reducible refine gate_callee (f := 43) rfl ?_); refine goesL_ (some 36) rfl rfl Try.func43 (by kernel_rfl) rfl #[.agg #[.int .i64 a0_0, .slice A0_1 l0_1.length c0_1], .slice Ao26 x5_2.length co26] rfl mA ?_; (with_reducible refine (impl_IsComplete.calls k2 a0_0 _ _ l0_1 _ _ x5_2 true _ ?side1 ?side2 ?side3 ?side4 A22.out).mono ?_); (case side1 => exact mC (Kd.C_below HR0_1.out HB.out)); (case side2 => exact HC0_1.out); (case side3 => exact mC (Kd.R_reads' HO_5.out).2.2); (case side4 => exact (Kd.R_reads' HO_5.out).2.1); rintro e w27 ⟨rfl, hb⟩; refine ⟨_, rfl, ?_⟩; have n0_ := Aside0.mk (Kd.S_below (mS HO_3.out) hb); have n1_ := Aside0.mk (Kd.R_below (mR HO_5.out) hb); have n2_ := Aside0.mk (blk_below (g := gb400) (o := .cells #[.int .i64 a0_0, .slice A0_1 l0_1.length c0_1] 28 (0, 0)) ((mK (BK400.out))) hb); have n3_ := Aside0.mk (below_step mG hb); clear HO_3 HO_5 BK400 HB; have HO_3 := n0_; have HO_5 := n1_; have BK400 := n2_; have HB := n3_; clear n0_ n1_ n2_ n3_; (try clear hb)) | ((with_reducible refine gate_builtin (b := .append) (xs := #[.tmp 37, .tmp 39]) rfl ?_); at_builtin; refine Kd.S_append (Kd.slice 3 (Kd.int .i64)) (w0 := w) w.heap.size rfl (.tmp 37) (.tmp 39) 22 25 (.slice none 0 0) 24 rfl Try.underlying22 info25 rfl (by decide) (by omega) u3 x3_1 x5_2 [.slice Ao26 x5_2.length co26] (fun _ => True) (fun k_ => some k_ = (.slice Ao26 x5_2.length co26 : Value).ownBlock) rfl rfl ?aP (fun k_ hk_ => ((Kd.R_mono (ok' := fun k_ => ((fun _ => True)) k_ ∧ some k_ ≠ (u3 : Value).ownBlock) (Kd.R_apart' (HO_5.out) (Kd.S_typed HO_3.out) (by decide)) (fun k_ hk => ⟨trivial, hk.2⟩))).1 k_ hk_.symm) ?aF ?aO ?aB ?aS ?aL ?_; (case aP => exact Kd.M_row (Kd.R_mono (Kd.R_tight rfl (Kd.R_mono (ok' := fun k_ => ((fun _ => True)) k_ ∧ some k_ ≠ (u3 : Value).ownBlock) (Kd.R_apart' (HO_5.out) (Kd.S_typed HO_3.out) (by decide)) (fun k_ hk => ⟨trivial, hk.2⟩))) (fun _ h_ => h_))); (case aB => exact mG); (case aF => exact (fun _ _ => trivial)); (case aO => exact (mS (Kd.S_mono HO_3.out (fun k_ hk => ⟨trivial, fun e_ => hk e_⟩)))); (case aS => exact (below_size mG)); (case aL => have := LMc24.out; omega); intro v414 w28 ho hb hg hat; rw [← Ny413.out] at ho; have n0_ := Aside0.mk (blk_grown (g := gb400) (o := .cells #[.int .i64 a0_0, .slice A0_1 l0_1.length c0_1] 28 (0, 0)) ((mK (BK400.out))) hg (Kd.S_ne HO_3.out BK400.out (by decide))); have n1_ := Aside0.mk (hb); have n2_ := Aside0.mk (ho); clear BK400 HB HO_3 HO_5; have BK400 := n0_; have HB := n1_; have HO415 := n2_; clear n0_ n1_ n2_; clear ho hb hg hat))
     go_roundg k2
     case measure => have := HK1.out; have := HK2.out; omega
     case rel => exact ⟨(y413), (wrap64 (x15_1 + 1)), mF, H', ⟨by have := HK1.out; have := HK2.out; omega⟩, ⟨mS HO415.out⟩, ⟨(mK (BK400.out))⟩, ⟨mG⟩⟩
/-! ### impl_isWithin: function 127 -/
def impl_isWithin.l0 : Nat → List Int → List Int → Int → Int → Option (Bool)
 | 0, _, _, _, _ => none
 | k + 1, x1, x7, x8, x9 => if x9 < x8 then (if 0 ≤ x9 then (if x9 < (x7.length : Int) then ((slices_Contains_int_int.f k x1 (rd x7 x9)).bind fun t417 => (if t417 = true then (impl_isWithin.l0 k x1 x7 x8 (wrap64 (x9 + 1))) else (some false))) else (none)) else (none)) else (some true)
def impl_isWithin.f (k : Nat) (l0 : List Int) (l1 : List Int) : Option (Bool) := impl_isWithin.l0 k l1 l0 (l0.length : Int) 0
theorem impl_isWithin.mono_l : ∀ k, (∀ y0 y1 y2 y3, LeO (impl_isWithin.l0 k y0 y1 y2 y3) (impl_isWithin.l0 (k + 1) y0 y1 y2 y3))
 | 0 => fun _ _ _ _ r h => by simp [impl_isWithin.l0] at h
 | k + 1 => by
  have ih0 := impl_isWithin.mono_l k
  ·
   intro y0 y1 y2 y3
   unfold impl_isWithin.l0
   repeat' with_reducible first | exact ih0 _ _ _ _ | exact slices_Contains_int_int.mono _ _ _ | exact LeO.refl _ | exact LeO.none _ | refine LeO.ite ?_ ?_ | refine LeO.bind ?_ (fun _ => ?_)
theorem impl_isWithin.mono : ∀ a0 a1 k, LeO (impl_isWithin.f k a0 a1) (impl_isWithin.f (k + 1) a0 a1) := by
 intro a0 a1 k
 have ih0 := impl_isWithin.mono_l k
 unfold impl_isWithin.f
 repeat' with_reducible first | exact ih0 _ _ _ _ | exact slices_Contains_int_int.mono _ _ _ | exact LeO.refl _ | exact LeO.none _ | refine LeO.ite ?_ ?_ | refine LeO.bind ?_ (fun _ => ?_)
set_option maxHeartbeats 8000000 in
set_option maxRecDepth 100000 in
theorem impl_isWithin.calls (k : Nat) (A0 : Option Addr) (c0 : Nat) (l0 : List Int) (A1 : Option Addr) (c1 : Nat) (l1 : List Int) (r : Bool) (w : World) (hr0 : Kd.C (Kd.int .i64) w A0 l0.length l0) (hc0 : l0.length ≤ c0) (hr1 : Kd.C (Kd.int .i64) w A1 l1.length l1) (hc1 : l1.length ≤ c1) (h : impl_isWithin.f k l0 l1 = some r) :
  Calls Try.prog 127 #[.slice A0 l0.length c0, .slice A1 l1.length c1] w fun e w' => e = .returned (.bool r) ∧ Drawn0 w w' := by
 have HR0 := Aside0.mk hr0
 have HC0 := Aside0.mk hc0
 clear hr0 hc0
 have HR1 := Aside0.mk hr1
 have HC1 := Aside0.mk hc1
 clear hr1 hc1
 have H : (impl_isWithin.l0 k l1 l0 (l0.length : Int) 0) = some r := h
 clear h
 have H' := Aside0.mk H
 clear H
 go_enter Try.func127, Try.ntmps127
 go_wp2
 go_loopg [9] k (fun kq v9 w' => ∃ (x9_1 : Int), v9 = .int .i64 x9_1 ∧ Aside0 (impl_isWithin.l0 kq l1 l0 (l0.length : Int) x9_1 = some r) ∧ Aside0 (kq ≤ k) ∧ Drawn0 w w')
 case atStart => exact ⟨(0), mF, H', ⟨Nat.le_refl _⟩, by repeat (first | exact Drawn0.refl _ | apply Drawn0.step)⟩
 case round =>
  clear H'
  obtain ⟨x9_1, rfl, HA, HK1, ⟨m1, rfl⟩⟩ := hrel
  cases gk with
  | zero => exact absurd HA.out (by simp [impl_isWithin.l0])
  | succ k1 =>
   have H := HA.out
   clear HA
   simp only [impl_isWithin.l0] at H
   by_cases c3 : x9_1 < (l0.length : Int)
   rotate_left
   ·
    rw [if_neg c3] at H
    have c3b0 : decide (x9_1 < (l0.length : Int)) = false := decide_eq_false c3
    clear c3
    obtain rfl := Option.some.inj H
    go_wp2
    go_ret
    exact ⟨mF, by repeat (first | exact Drawn0.refl _ | apply Drawn0.step)⟩
   rw [if_pos c3] at H
   have c3b0 : decide (x9_1 < (l0.length : Int)) = true := decide_eq_true c3
   clear c3
   by_cases c4 : 0 ≤ x9_1
   rotate_left
   ·
    rw [if_neg c4] at H
    exact absurd H (by simp)
   rw [if_pos c4] at H
   have c4b0 : decide (0 ≤ x9_1) = true := decide_eq_true c4
   clear c4
   by_cases c5 : x9_1 < (l0.length : Int)
   rotate_left
   ·
    rw [if_neg c5] at H
    exact absurd H (by simp)
   rw [if_pos c5] at H
   have c5b0 : decide (x9_1 < (l0.length : Int)) = true := decide_eq_true c5
   clear c5
   replace H := Option.bind_eq_some_iff.mp H
   obtain ⟨t417, A60, H⟩ := H
   have A6 := Aside0.mk A60
   clear A60
   by_cases c7 : t417 = true
   rotate_left
   ·
    replace c7 := Bool.eq_false_iff.mpr c7
    subst c7
    rw [if_neg (show ¬ (false = true) by decide)] at H
    obtain rfl := Option.some.inj H
    have p416 : 0 ≤ (x9_1 : Int) := mD
    have q416 : x9_1 < (l0.length : Int) := mD
    obtain ⟨ad416, e416, hx416_0⟩ := Kd.at_int HR0.out x9_1 p416 q416
    cases e416
    replace p416 := eq_true p416
    replace q416 := eq_true q416
    go_wp2_with (first | ((with_reducible refine gate_callee (f := 84) rfl ?_); refine goesL_ (some 15) rfl rfl Try.func84 (by kernel_rfl) rfl #[.slice A1 l1.length c1, .int .i64 (rd l0 x9_1)] rfl mA ?_; (with_reducible refine (slices_Contains_int_int.calls k1 _ _ l1 (rd l0 x9_1) false _ ?side1 ?side2 A6.out).mono ?_); (case side1 => exact mC HR1.out); (case side2 => exact HC1.out); rintro e w' ⟨rfl, ⟨nd, rfl⟩⟩; refine ⟨_, rfl, ?_⟩))
    go_ret
    exact ⟨mF, by repeat (first | exact Drawn0.refl _ | apply Drawn0.step)⟩
   subst c7
   rw [if_pos rfl] at H
   have H' := Aside0.mk H
   clear H
   have p416 : 0 ≤ (x9_1 : Int) := mD
   have q416 : x9_1 < (l0.length : Int) := mD
   obtain ⟨ad416, e416, hx416_0⟩ := Kd.at_int HR0.out x9_1 p416 q416
   cases e416
   replace p416 := eq_true p416
   replace q416 := eq_true q416
   go_wp2_with (first | ((with_reducible refine gate_callee (f := 84) rfl ?_); refine goesL_ (some 15) rfl rfl Try.func84 (by kernel_rfl) rfl #[.slice A1 l1.length c1, .int .i64 (rd l0 x9_1)] rfl mA ?_; (with_reducible refine (slices_Contains_int_int.calls k1 _ _ l1 (rd l0 x9_1) true _ ?side1 ?side2 A6.out).mono ?_); (case side1 => exact mC HR1.out); (case side2 => exact HC1.out); rintro e w' ⟨rfl, ⟨nd, rfl⟩⟩; refine ⟨_, rfl, ?_⟩))
   go_roundg k1
   case measure => have := HK1.out; omega
   case rel => exact ⟨(wrap64 (x9_1 + 1)), mF, H', ⟨by have := HK1.out; omega⟩, by repeat (first | exact Drawn0.refl _ | apply Drawn0.step)⟩
-- NOT PRINTED: function 126 (impl_Preferred_1)


/-! ### impl_Preferred: function 109 -/
def impl_Preferred.q (k : Nat) (a b : List Int) : Option Bool := if a.length < b.length then impl_isWithin.f k a b else some false
def impl_Preferred.l0 : Nat → List (List Int) → List (List Int) → Int → Option (List (List Int))
 | 0, _, _, _ => none
 | k + 1, o, all, i => if i < (all.length : Int) then (if 0 ≤ i then ((slices_IndexFunc_L.idx (impl_Preferred.q k (rd_L1 all i)) all 0).bind fun t => (if 0 ≤ t then (impl_Preferred.l0 k o all (wrap64 (i + 1))) else (if o.length < 5864062014805 then (impl_Preferred.l0 k (o ++ [rd_L1 all i]) all (wrap64 (i + 1))) else none))) else none) else some o
def impl_Preferred.f (k : Nat) (a0_0 : Int) (l0_1 : List (List Int)) : Option (List (List Int)) := (impl_AllComplete.f k a0_0 l0_1).bind fun t430 => impl_Preferred.l0 k [] t430 0
theorem impl_Preferred.q_mono (k : Nat) (a x : List Int) : LeO (impl_Preferred.q k a x) (impl_Preferred.q (k + 1) a x) := LeO.ite (impl_isWithin.mono a x k) (LeO.refl _)
theorem impl_Preferred.mono_l : ∀ k, (∀ y0 y1 y2, LeO (impl_Preferred.l0 k y0 y1 y2) (impl_Preferred.l0 (k + 1) y0 y1 y2))
 | 0 => fun _ _ _ r h => by simp [impl_Preferred.l0] at h
 | k + 1 => by
  have ih0 := impl_Preferred.mono_l k
  intro y0 y1 y2
  unfold impl_Preferred.l0
  exact LeO.ite (LeO.ite (LeO.bind (slices_IndexFunc_L.idx_mono (fun x => impl_Preferred.q_mono k _ x) _ _) (fun _ => LeO.ite (ih0 _ _ _) (LeO.ite (ih0 _ _ _) (LeO.none _)))) (LeO.none _)) (LeO.refl _)
theorem impl_Preferred.mono : ∀ a0 a1 k, LeO (impl_Preferred.f k a0 a1) (impl_Preferred.f (k + 1) a0 a1) := by
 intro a0 a1 k
 unfold impl_Preferred.f
 exact LeO.bind (impl_AllComplete.mono _ _ _) (fun _ => impl_Preferred.mono_l k _ _ _)
theorem impl_Preferred.rdg (l : List (List Int)) (x : Int) : rd_L1 l x = l.getD x.toNat [] := by
 unfold rd_L1
 rfl
set_option maxHeartbeats 4000000 in
theorem impl_Preferred.pred (k : Nat) (a : List Int) (Aa : Option Addr) (ca : Nat) (B : Nat) (w : World) (hcell : w.heap[B]? = some (.cells #[.slice Aa a.length ca] 25 (0, 0))) (hCa : Kd.C (Kd.int .i64) w Aa a.length a) (hca : a.length ≤ ca) : ∀ (W : World) (A : Option Addr) (c : Nat) (x : List Int) (t : Bool), Drawn0 w W → Kd.C (Kd.int .i64) W A x.length x → x.length ≤ c → impl_Preferred.q k a x = some t → Calls Try.prog 126 (#[.slice A x.length c] ++ #[.pointer (some ⟨B, 0, none⟩)]) W fun e w' => e = .returned (.bool t) ∧ Drawn0 W w' := by
 intro W A c x t hD hC hc hq
 have hce : W.cell? ⟨B, 0, none⟩ = some (.slice Aa a.length ca) := (blk_cell (blk_below hcell (Drawn0.below hD)) 0).trans rfl
 have HCA := Aside0.mk (Kd.C_below hCa (Drawn0.below hD))
 clear hD hcell hCa
 show Calls Try.prog 126 #[.slice A x.length c, .pointer (some ⟨B, 0, none⟩)] W _
 have HC := Aside0.mk hC
 have HL := Aside0.mk hc
 have HLA := Aside0.mk hca
 unfold impl_Preferred.q at hq
 clear hC hc hca
 by_cases hg : a.length < x.length
 ·
  rw [if_pos hg] at hq
  have HQ := Aside0.mk hq
  have g1 : decide (a.length < x.length) = true := decide_eq_true hg
  have g2 : decide ((a.length : Int) < (x.length : Int)) = true := decide_eq_true (by omega)
  clear hq hg
  go_enter Try.func126, Try.ntmps126
  go_wp2_with (go_at_call 127; refine (impl_isWithin.calls k Aa ca a A c x t _ (mC HCA.out) HLA.out (mC HC.out) HL.out HQ.out).mono ?_; rintro e w' ⟨rfl, ⟨nd, rfl⟩⟩)
  all_goals (go_ret; exact ⟨rfl, by repeat (first | exact Drawn0.refl _ | apply Drawn0.step)⟩)
 ·
  rw [if_neg hg] at hq
  obtain rfl := Option.some.inj hq
  have g1 : decide (a.length < x.length) = false := decide_eq_false hg
  have g2 : decide ((a.length : Int) < (x.length : Int)) = false := decide_eq_false (by omega)
  clear hq hg
  go_enter Try.func126, Try.ntmps126
  go_wp2
  all_goals (go_ret; exact ⟨rfl, by repeat (first | exact Drawn0.refl _ | apply Drawn0.step)⟩)
set_option maxHeartbeats 8000000 in
set_option maxRecDepth 100000 in
theorem impl_Preferred.calls (k : Nat) (a0_0 : Int) (A0_1 : Option Addr) (c0_1 : Nat) (l0_1 : List (List Int)) (r : List (List Int)) (w : World) (hr0_1 : Kd.C (Kd.slice 3 (Kd.int .i64)) w A0_1 l0_1.length l0_1) (hc0_1 : l0_1.length ≤ c0_1) (h : impl_Preferred.f k a0_0 l0_1 = some r) :
  Calls Try.prog 109 #[.agg #[.int .i64 a0_0, .slice A0_1 l0_1.length c0_1]] w fun e w' => ∃ v0_ : Value, e = .returned (v0_) ∧ Kd.S (Kd.slice 3 (Kd.int .i64)) 25 w' w.heap.size (fun _ => True) v0_ r ∧ Below w.heap.size w w' := by
 have hu28 := Try.underlying28
 have eg : ∀ args w, (callFunc 126 args).run Try.prog w = .ok (.enter 126 args) w := enters_of Try.func126 (by kernel_rfl) rfl
 have EG := Aside0.mk eg
 have HR0_1 := Aside0.mk hr0_1
 have HC0_1 := Aside0.mk hc0_1
 clear hr0_1 hc0_1 eg
 have HB := Aside0.mk (Below.refl w.heap.size w)
 obtain ⟨t430, A20, H⟩ := Option.bind_eq_some_iff.mp (show ((impl_AllComplete.f k a0_0 l0_1).bind fun t430 => impl_Preferred.l0 k [] t430 0) = some r from h)
 have A2 := Aside0.mk A20
 have H' := Aside0.mk H
 clear A20 H h
 go_enter Try.func109, Try.ntmps109
 go_wp2_with (first
  | ((with_reducible refine gate_dst (N := 1) rfl ?_); refine box_event ?hg (N := 1) ?hd (cs := #[.int .i64 a0_0, .slice A0_1 l0_1.length c0_1]) (t := 28) ?hr ?_; (case hd => rfl); (case hg => rfl); (case hr => first | (go_simp; done) | (go_simp; rfl)); intro gb426 hg w3 hbox hb; have n0_ := Aside0.mk (below_step (mB HB.out) hb); have n1_ := Aside0.mk (hbox); have n2_ := Aside0.mk ((by rw [hg]; exact (below_size (mB HB.out)) : w.heap.size ≤ gb426)); clear HB; have HB := n0_; have BK426 := n1_; have GE426 := n2_; clear n0_ n1_ n2_; clear hb hbox hg; have hcz6_0 : w3.cell? ⟨gb426, 0, none⟩ = some (.int .i64 a0_0) := (blk_cell BK426.out 0).trans rfl; have hcz6_1 : w3.cell? ⟨gb426, 1, none⟩ = some (.slice A0_1 l0_1.length c0_1) := (blk_cell BK426.out 1).trans rfl; have hfz6_0 := blk_frozen BK426.out 0; have hfz6_1 := blk_frozen BK426.out 1)
  | ((with_reducible refine gate_callee (f := 70) rfl ?_); refine goesL_ (some 8) rfl rfl Try.func70 (by kernel_rfl) rfl #[.agg #[.int .i64 a0_0, .slice A0_1 l0_1.length c0_1]] rfl mA ?_; (with_reducible refine (impl_AllComplete.calls k a0_0 _ _ l0_1 t430 _ ?side1 ?side2 A2.out).mono ?_); (case side1 => exact mC (Kd.C_below HR0_1.out HB.out)); (case side2 => exact HC0_1.out); rintro e w7 ⟨v431, rfl, ho0, hb⟩; refine ⟨_, rfl, ?_⟩; obtain ⟨n0, inner, P0, _, hcell, hfin⟩ := Go.Proofs.YtelkfhlnejlheaaW.Pick.Pk.start rfl (mB HB.out) (mK BK426.out) GE426.out (Kd.R_nil (Kd.raw 1) 25 _ _ _) ho0 hb []; have P := Aside0.mk P0; have HCELL := Aside0.mk hcell; have HFIN := Aside0.mk hfin; obtain ⟨Ao8, co8, eo8⟩ := Kd.S_slice ho0; clear ho0 hb P0 hcell hfin HB BK426; subst eo8)
  | ((with_reducible refine gate_dst (N := 9) rfl ?_); refine Kd.R_lit (Kd.raw 1) _ 25 ?hg (N := 9) ?hd (xs := ([] : List (List Value))) (inner := []) (ok := fun _ => True) (okp := fun _ => True) ?hr ?hp (fun _ hk => hk) trivial (Below.refl _ _) (Nat.le_refl _) (by simp) ?_; (case hd => rfl); (case hg => rfl); (case hr => first | (go_simp; done) | (go_simp; rfl)); (case hp => exact (Reps.none _ _)); intro v428 w4 ho5 hb hg_ hnew_; have P0 := Aside0.mk (Go.Proofs.YtelkfhlnejlheaaW.Pick.Pk.lit (Go.Proofs.YtelkfhlnejlheaaW.Pick.Pk.below P.out Mv.out) hb (Kd.R_lower ho5 (below_size (mB P.out.B))) (fun b_ hb_ => Kd.R_base ho5 b_ hb_)); clear P; have P := P0; clear P0 hg_ hnew_ hb ho5))
 go_loopg [4, 12] k (fun kq v4 v12 w' => ∃ (s : List Nat) (x10_1 : Int), v12 = .int .i64 x10_1 ∧ Aside0 (impl_Preferred.l0 kq (s.map fun i => t430.getD i []) t430 x10_1 = some r) ∧ Aside0 (kq ≤ k) ∧ Aside0 (∀ i ∈ s, (i : Int) < x10_1) ∧ Aside0 (Go.Proofs.YtelkfhlnejlheaaW.Pick.Pk (Kd.slice 3 (Kd.int .i64)) 25 w w7 n0 gb426 #[.int .i64 a0_0, .slice A0_1 l0_1.length c0_1] 28 (.slice Ao8 t430.length co8) t430 inner v4 s w'))
 case atStart => exact ⟨[], (0), mF, H', ⟨Nat.le_refl _⟩, ⟨fun i hi => by cases hi⟩, ⟨Go.Proofs.YtelkfhlnejlheaaW.Pick.Pk.below P.out Mv.out⟩⟩
 case round =>
  clear H' P
  (try clear hcz6_0); (try clear hcz6_1); (try clear hfz6_0); (try clear hfz6_1)
  obtain ⟨s, x10_1, rfl, HA, HK1, HS, P⟩ := hrel
  cases gk with
  | zero => exact absurd HA.out (by simp [impl_Preferred.l0])
  | succ k1 =>
  have H := HA.out
  clear HA
  simp only [impl_Preferred.l0] at H
  by_cases c9 : x10_1 < (t430.length : Int)
  case neg =>
   rw [if_neg c9] at H
   have c9b0 : decide (x10_1 < (t430.length : Int)) = false := decide_eq_false c9
   clear c9
   obtain rfl := Option.some.inj H
   go_wp2
   go_ret
   exact ⟨_, by first | rfl | (simp [*] <;> rfl), HFIN.out _ _ _ (Go.Proofs.YtelkfhlnejlheaaW.Pick.Pk.below P.out Mv.out), mB P.out.B⟩
  rw [if_pos c9] at H
  have c9b0 : decide (x10_1 < (t430.length : Int)) = true := decide_eq_true c9
  by_cases c10 : 0 ≤ x10_1
  case neg => rw [if_neg c10] at H; exact absurd H (by simp)
  rw [if_pos c10] at H
  have c10b0 : decide (0 ≤ x10_1) = true := decide_eq_true c10
  have hmax : x10_1 < 9223372036854775807 := by have := (Kd.S_reads' P.out.S).2.2.2.1; omega
  have hw1 : wrap64 (x10_1 + 1) = x10_1 + 1 := by unfold wrap64; omega
  have HW1 := Aside0.mk hw1
  have HX0 := Aside0.mk c10
  have HX1 := Aside0.mk c9
  clear c9 c10 hmax hw1
  obtain ⟨tt, A120, H⟩ := Option.bind_eq_some_iff.mp H
  have A12 := Aside0.mk A120
  clear A120
  have p433 : 0 ≤ (x10_1 : Int) := mD
  have q433 : x10_1 < (t430.length : Int) := mD
  obtain ⟨ad433, A433_0, c433_0, e433, hx433_0, hl433_0, hi433_0⟩ := at_L1 (Kd.S_reads' P.out.S).2.2 x10_1 p433 q433
  cases e433
  have HR433_0 := Aside0.mk hi433_0
  have HC433_0 := Aside0.mk hl433_0
  clear hi433_0 hl433_0
  have heq_ : inner.getD x10_1.toNat (.slice none 0 0) = .slice A433_0 (rd_L1 t430 x10_1).length c433_0 := by
   obtain ⟨h1_, h2_, h3_⟩ := HCELL.out ad433 _ _ x10_1.toNat rfl (by have := HX0.out; have := HX1.out; omega)
   have h4_ : wr.cell? (ad433.add x10_1.toNat) = w7.cell? (ad433.add x10_1.toNat) := by
    simp only [World.cell?, add_block]
    rw [P.out.K _ h2_ h3_]
   rw [h4_, h1_] at hx433_0
   exact Option.some.inj hx433_0
  have HEQ := Aside0.mk heq_
  clear heq_
  replace p433 := eq_true p433
  replace q433 := eq_true q433
  by_cases c13 : 0 ≤ tt
  case pos =>
   rw [if_pos c13] at H
   have c13b0 : decide (0 ≤ tt) = true := decide_eq_true c13
   have H' := Aside0.mk H
   clear H c13
   go_wp2_with (first | ((with_reducible refine gate_dst (N := 6) rfl ?_); refine box_event ?hg (N := 6) ?hd (cs := #[.slice none 0 0]) (t := 25) ?hr ?_; (case hd => rfl); (case hg => rfl); (case hr => first | (go_simp; done) | (go_simp; rfl)); intro gbA hg w6 hbox hb; have HBX := Aside0.mk (below_step (Mv.out : Below wr.heap.size wr _) hb); have HGA := Aside0.mk ((by rw [hg]; exact below_size (Mv.out : Below wr.heap.size wr _)) : wr.heap.size ≤ gbA); have BKA := Aside0.mk hbox; have hczA : w6.cell? ⟨gbA, 0, none⟩ = some (.slice none 0 0) := (blk_cell BKA.out 0).trans rfl; have hfzA := blk_frozen BKA.out 0; clear hb hbox hg) | (go_at_call 108; refine (slices_ContainsFunc_L.calls (impl_Preferred.q k1 (rd_L1 t430 x10_1)) 126 #[.pointer (some ⟨gbA, 0, none⟩)] EG.out _ co8 t430 tt _ ?side1 ?side2 ?side3 A12.out).mono ?_; (case side1 => exact mC (Kd.S_reads' (Go.Proofs.YtelkfhlnejlheaaW.Pick.Pk.below P.out (below_set (j := 0) (v := (.slice A433_0 (rd_L1 t430 x10_1).length c433_0)) HBX.out HGA.out)).S).2.2); (case side2 => exact (Kd.S_reads' P.out.S).2.1); (case side3 => exact impl_Preferred.pred k1 (rd_L1 t430 x10_1) A433_0 c433_0 gbA _ (mK (blk_put BKA.out 0 (.slice A433_0 (rd_L1 t430 x10_1).length c433_0) rfl)) (mC (Kd.C_below HR433_0.out (below_set (j := 0) (v := (.slice A433_0 (rd_L1 t430 x10_1).length c433_0)) HBX.out HGA.out))) HC433_0.out); rintro e w8 ⟨rfl, hD⟩; have hcz8 : w8.cell? ⟨gbA, 0, none⟩ = some (.slice A433_0 (rd_L1 t430 x10_1).length c433_0) := (blk_cell (blk_below (mK (blk_put BKA.out 0 (.slice A433_0 (rd_L1 t430 x10_1).length c433_0) rfl)) (Drawn0.below hD)) 0).trans rfl; have P0 := Aside0.mk (Go.Proofs.YtelkfhlnejlheaaW.Pick.Pk.below (Go.Proofs.YtelkfhlnejlheaaW.Pick.Pk.below (Go.Proofs.YtelkfhlnejlheaaW.Pick.Pk.below P.out (below_set (j := 0) (v := (.slice A433_0 (rd_L1 t430 x10_1).length c433_0)) HBX.out HGA.out)) Mv.out) (Drawn0.below hD)); clear P hD; have P := P0; clear P0))
   go_roundg k1
   case measure => have := HK1.out; omega
   case rel => exact ⟨s, (wrap64 (x10_1 + 1)), mF, H', ⟨by have := HK1.out; omega⟩, ⟨fun i hi => by have := HS.out i hi; have := HW1.out; omega⟩, ⟨Go.Proofs.YtelkfhlnejlheaaW.Pick.Pk.below P.out Mv.out⟩⟩
  rw [if_neg c13] at H
  have c13b0 : decide (0 ≤ tt) = false := decide_eq_false c13
  clear c13
  by_cases c14 : (s.map fun i => t430.getD i []).length < 5864062014805
  case neg => rw [if_neg c14] at H; exact absurd H (by simp)
  rw [if_pos c14] at H
  have LMc14 := Aside0.mk (show s.length < 5864062014805 by rwa [List.length_map] at c14)
  clear c14
  have H' := Aside0.mk H
  clear H
  go_wp2_with (first | ((with_reducible refine gate_dst (N := 6) rfl ?_); refine box_event ?hg (N := 6) ?hd (cs := #[.slice none 0 0]) (t := 25) ?hr ?_; (case hd => rfl); (case hg => rfl); (case hr => first | (go_simp; done) | (go_simp; rfl)); intro gbA hg w6 hbox hb; have HBX := Aside0.mk (below_step (Mv.out : Below wr.heap.size wr _) hb); have HGA := Aside0.mk ((by rw [hg]; exact below_size (Mv.out : Below wr.heap.size wr _)) : wr.heap.size ≤ gbA); have BKA := Aside0.mk hbox; have hczA : w6.cell? ⟨gbA, 0, none⟩ = some (.slice none 0 0) := (blk_cell BKA.out 0).trans rfl; have hfzA := blk_frozen BKA.out 0; clear hb hbox hg) | (go_at_call 108; refine (slices_ContainsFunc_L.calls (impl_Preferred.q k1 (rd_L1 t430 x10_1)) 126 #[.pointer (some ⟨gbA, 0, none⟩)] EG.out _ co8 t430 tt _ ?side1 ?side2 ?side3 A12.out).mono ?_; (case side1 => exact mC (Kd.S_reads' (Go.Proofs.YtelkfhlnejlheaaW.Pick.Pk.below P.out (below_set (j := 0) (v := (.slice A433_0 (rd_L1 t430 x10_1).length c433_0)) HBX.out HGA.out)).S).2.2); (case side2 => exact (Kd.S_reads' P.out.S).2.1); (case side3 => exact impl_Preferred.pred k1 (rd_L1 t430 x10_1) A433_0 c433_0 gbA _ (mK (blk_put BKA.out 0 (.slice A433_0 (rd_L1 t430 x10_1).length c433_0) rfl)) (mC (Kd.C_below HR433_0.out (below_set (j := 0) (v := (.slice A433_0 (rd_L1 t430 x10_1).length c433_0)) HBX.out HGA.out))) HC433_0.out); rintro e w8 ⟨rfl, hD⟩; have hcz8 : w8.cell? ⟨gbA, 0, none⟩ = some (.slice A433_0 (rd_L1 t430 x10_1).length c433_0) := (blk_cell (blk_below (mK (blk_put BKA.out 0 (.slice A433_0 (rd_L1 t430 x10_1).length c433_0) rfl)) (Drawn0.below hD)) 0).trans rfl; have P0 := Aside0.mk (Go.Proofs.YtelkfhlnejlheaaW.Pick.Pk.below (Go.Proofs.YtelkfhlnejlheaaW.Pick.Pk.below (Go.Proofs.YtelkfhlnejlheaaW.Pick.Pk.below P.out (below_set (j := 0) (v := (.slice A433_0 (rd_L1 t430 x10_1).length c433_0)) HBX.out HGA.out)) Mv.out) (Drawn0.below hD)); clear P hD; have P := P0; clear P0) | ((with_reducible refine gate_builtin (b := .append) (xs := #[.tmp 20, .tmp 22]) rfl ?_); at_builtin; refine Kd.R_append (Kd.raw 1) (w0 := w) w.heap.size rfl (.tmp 20) (.tmp 22) 22 25 (.slice none 0 0) 24 rfl Try.underlying22 info25 rfl (by decide) (by omega) u4 (s.map fun i => [inner.getD i (.slice none 0 0)]) [(.slice A433_0 (rd_L1 t430 x10_1).length c433_0)] [(.slice A433_0 (rd_L1 t430 x10_1).length c433_0)] (fun _ => True) (fun _ => False) rfl rfl ?aP (fun _ hk => hk.elim) ?aF ?aO ?aB ?aS ?aL ?_; (case aP => exact ⟨rfl, rfl, fun u hu => by rw [List.mem_singleton.1 hu]; rfl⟩); (case aB => exact mB P.out.B); (case aF => exact (fun _ _ => trivial)); (case aO => exact (mR P.out.O)); (case aS => exact (below_size (mB P.out.B))); (case aL => have := LMc14.out; rw [List.length_map]; omega); intro v436 w17 ho hb hg hat; have P0 := Aside0.mk (Go.Proofs.YtelkfhlnejlheaaW.Pick.Pk.snoc (Go.Proofs.YtelkfhlnejlheaaW.Pick.Pk.below P.out Mv.out) (i := x10_1.toNat) (by decide) (by have := HX0.out; have := HX1.out; omega) (fun hi => by have := HS.out _ hi; have := HX0.out; omega) (by rw [HEQ.out]; exact ho) hb hg hat); clear P; have P := P0; clear P0 ho hb hg hat))
  go_roundg k1
  case measure => have := HK1.out; omega
  case rel => exact ⟨s ++ [x10_1.toNat], (wrap64 (x10_1 + 1)), mF, ⟨by rw [List.map_append, List.map_singleton, ← impl_Preferred.rdg]; exact H'.out⟩, ⟨by have := HK1.out; omega⟩, ⟨fun i hi => by rcases List.mem_append.1 hi with hi | hi; exact (by have := HS.out i hi; have := HW1.out; omega); exact (by rw [List.mem_singleton.1 hi]; have := HW1.out; have := HX0.out; omega)⟩, ⟨Go.Proofs.YtelkfhlnejlheaaW.Pick.Pk.below P.out Mv.out⟩⟩

-- NOT PRINTED: function 110 (impl_IsCredible_1)


/-! ### impl_IsCredible: function 75 -/
def impl_IsCredible.f (k : Nat) (a0_0 : Int) (l0_1 : List (List Int)) (a1 : Int) : Option Bool := (impl_Preferred.f k a0_0 l0_1).bind fun t => (slices_IndexFunc_L.idx (fun x => slices_Contains_int_int.f k x a1) t 0).bind fun i => some (decide (0 ≤ i))
theorem impl_IsCredible.mono : ∀ a0 a1 a2 k, LeO (impl_IsCredible.f k a0 a1 a2) (impl_IsCredible.f (k + 1) a0 a1 a2) := by
 intro a0 a1 a2 k
 unfold impl_IsCredible.f
 exact LeO.bind (impl_Preferred.mono _ _ _) (fun _ => LeO.bind (slices_IndexFunc_L.idx_mono (fun x => slices_Contains_int_int.mono x a2 k) _ _) (fun _ => LeO.refl _))
theorem impl_IsCredible.pred (k : Nat) (a1 : Int) (B : Nat) (w : World) (hcell : w.heap[B]? = some (.cells #[.int .i64 a1] 3 (0, 0))) : ∀ (W : World) (A : Option Addr) (c : Nat) (x : List Int) (t : Bool), Drawn0 w W → Kd.C (Kd.int .i64) W A x.length x → x.length ≤ c → slices_Contains_int_int.f k x a1 = some t → Calls Try.prog 110 (#[.slice A x.length c] ++ #[.pointer (some ⟨B, 0, none⟩)]) W fun e w' => e = .returned (.bool t) ∧ Drawn0 W w' := by
 intro W A c x t hD hC hc hq
 have hce : W.cell? ⟨B, 0, none⟩ = some (.int .i64 a1) := (blk_cell (blk_below hcell (Drawn0.below hD)) 0).trans rfl
 clear hD hcell
 show Calls Try.prog 110 #[.slice A x.length c, .pointer (some ⟨B, 0, none⟩)] W _
 have HC := Aside0.mk hC
 have HL := Aside0.mk hc
 have HQ := Aside0.mk hq
 clear hC hc hq
 go_enter Try.func110, Try.ntmps110
 go_wp2_with (go_at_call 84; refine (slices_Contains_int_int.calls k A c x a1 t _ (mC HC.out) HL.out HQ.out).mono ?_; rintro e w' ⟨rfl, ⟨nd, rfl⟩⟩)
 all_goals (go_ret; exact ⟨rfl, by repeat (first | exact Drawn0.refl _ | apply Drawn0.step)⟩)
set_option maxHeartbeats 4000000 in
set_option maxRecDepth 100000 in
theorem impl_IsCredible.calls (k : Nat) (a0_0 : Int) (A0_1 : Option Addr) (c0_1 : Nat) (l0_1 : List (List Int)) (a1 : Int) (r : Bool) (w : World) (hr0_1 : Kd.C (Kd.slice 3 (Kd.int .i64)) w A0_1 l0_1.length l0_1) (hc0_1 : l0_1.length ≤ c0_1) (h : impl_IsCredible.f k a0_0 l0_1 a1 = some r) :
  Calls Try.prog 75 #[.agg #[.int .i64 a0_0, .slice A0_1 l0_1.length c0_1], .int .i64 a1] w fun e w' => e = .returned (.bool r) ∧ Below w.heap.size w w' := by
 have hu28 := Try.underlying28
 have eg : ∀ args w, (callFunc 110 args).run Try.prog w = .ok (.enter 110 args) w := enters_of Try.func110 (by kernel_rfl) rfl
 have EG := Aside0.mk eg
 have HR0_1 := Aside0.mk hr0_1
 have HC0_1 := Aside0.mk hc0_1
 clear hr0_1 hc0_1 eg
 have HB := Aside0.mk (Below.refl w.heap.size w)
 obtain ⟨t1, A20, A30⟩ := Option.bind_eq_some_iff.mp (show (impl_Preferred.f k a0_0 l0_1).bind (fun t => (slices_IndexFunc_L.idx (fun x => slices_Contains_int_int.f k x a1) t 0).bind fun i => some (decide (0 ≤ i))) = some r from h)
 obtain ⟨ti, A31, A40⟩ := Option.bind_eq_some_iff.mp A30
 obtain rfl := Option.some.inj A40
 have A2 := Aside0.mk A20
 have A3 := Aside0.mk A31
 clear h A20 A30 A31 A40
 go_enter Try.func75, Try.ntmps75
 go_wp2_with (first
  | ((with_reducible refine gate_dst (N := 2) rfl ?_); refine box_event ?hg (N := 2) ?hd (cs := #[.int .i64 a0_0, .slice A0_1 l0_1.length c0_1]) (t := 28) ?hr ?_; (case hd => rfl); (case hg => rfl); (case hr => first | (go_simp; done) | (go_simp; rfl)); intro gb1 hg w4 hbox hb; have n0_ := Aside0.mk (below_step (mB HB.out) hb); have n1_ := Aside0.mk (hbox); clear HB; have HB := n0_; have BK1 := n1_; clear n0_ n1_; clear hb hbox hg; have hcz7_0 : w4.cell? ⟨gb1, 0, none⟩ = some (.int .i64 a0_0) := (blk_cell BK1.out 0).trans rfl; have hcz7_1 : w4.cell? ⟨gb1, 1, none⟩ = some (.slice A0_1 l0_1.length c0_1) := (blk_cell BK1.out 1).trans rfl)
  | ((with_reducible refine gate_dst (N := 3) rfl ?_); refine box_event ?hg (N := 3) ?hd (cs := #[.int .i64 a1]) (t := 3) ?hr ?_; (case hd => rfl); (case hg => rfl); (case hr => first | (go_simp; done) | (go_simp; rfl)); intro gb2 hg w5 hbox hb; have n0_ := Aside0.mk (below_step (mB HB.out) hb); have n1_ := Aside0.mk (hbox); have n2_ := Aside0.mk (blk_below (g := gb1) (o := .cells #[.int .i64 a0_0, .slice A0_1 l0_1.length c0_1] 28 (0, 0)) (mK BK1.out) hb); clear HB hcz7_0 hcz7_1 BK1; have HB := n0_; have BK2 := n1_; have BK1 := n2_; clear n0_ n1_ n2_; clear hb hbox hg; have hcz7_0 : w5.cell? ⟨gb1, 0, none⟩ = some (.int .i64 a0_0) := (blk_cell BK1.out 0).trans rfl; have hcz7_1 : w5.cell? ⟨gb1, 1, none⟩ = some (.slice A0_1 l0_1.length c0_1) := (blk_cell BK1.out 1).trans rfl)
  | (go_at_call 109; refine (impl_Preferred.calls k a0_0 _ _ l0_1 t1 _ (mC (Kd.C_below HR0_1.out HB.out)) HC0_1.out A2.out).mono ?_; rintro e w8 ⟨v342, rfl, ho0, hb⟩; have n0_ := Aside0.mk ho0; have n1_ := Aside0.mk (below_step (mB HB.out) hb); have n2_ := Aside0.mk (blk_below (g := gb2) (o := .cells #[.int .i64 a1] 3 (0, 0)) (mK BK2.out) hb); clear HB BK2 BK1; have HO := n0_; have HB := n1_; have BK2 := n2_; clear n0_ n1_ n2_ hb ho0; obtain ⟨Ao9, co9, eo9⟩ := Kd.S_slice HO.out; subst eo9)
  | (go_at_call 108; refine (slices_ContainsFunc_L.calls _ 110 #[.pointer (some ⟨gb2, 0, none⟩)] EG.out _ _ t1 ti _ (mC (Kd.S_reads' HO.out).2.2) (Kd.S_reads' HO.out).2.1 (impl_IsCredible.pred k a1 gb2 _ (mK BK2.out)) A3.out).mono ?_; rintro e w' ⟨rfl, ⟨nd, rfl⟩⟩))
 all_goals (go_ret; exact ⟨rfl, mB HB.out⟩)

end Go.Proofs.Ytelkfhlnejlheaa.GFnExactIsCredible
