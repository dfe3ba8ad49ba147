-- Written by gprint.py, a program of this session, with the printer of the kit as its library. Lean checks it.
import Derived.Test.YtelkfhlnejlheaaGFnExactStableSetsx0
import Derived.Test.YtelkfhlnejlheaaGFnExactStableSetsx1
import Derived.Test.YtelkfhlnejlheaaGFnExactStableSetsx2
import Derived.Test.YtelkfhlnejlheaaGFnExactStableSetsx8
import Derived.Test.YtelkfhlnejlheaaGFnExactStableSetsx9
import Derived.Test.YtelkfhlnejlheaaGFnExactStableSetsx11
namespace Go.Proofs.Ytelkfhlnejlheaa.GFnExactStableSets
open Go.RowKit Go.Proofs.YtelkfhlnejlheaaW.PrintWords Go.Proofs.YtelkfhlnejlheaaW.PrintLast Go.Proofs.YtelkfhlnejlheaaW.PrintMore
attribute [local go_sem] max2_int min2_int max_two min_two max_three min_three max_four min_four   -- for this text's walks alone
set_option linter.unusedVariables false
set_option linter.unusedSimpArgs false


/-! ### slices_SortFunc_L: function 106, called with slices.Compare -/
def slices_SortFunc_L.f (k : Nat) (l : List (List Int)) : Option (List (List Int)) := if l.length < 4611686018427387904 ∧ (∀ p ∈ l, p.length < k ∧ p.length < 4611686018427387904) then some (Go.Proofs.YtelkfhlnejlheaaW.Pick.sortL l) else none
theorem slices_SortFunc_L.mono : ∀ a0 k, LeO (slices_SortFunc_L.f k a0) (slices_SortFunc_L.f (k + 1) a0) := by
 intro l k r h
 unfold slices_SortFunc_L.f at h ⊢
 by_cases c : l.length < 4611686018427387904 ∧ (∀ p ∈ l, p.length < k ∧ p.length < 4611686018427387904)
 ·
  rw [if_pos c] at h
  rw [if_pos ⟨c.1, fun p hp => ⟨by have := (c.2 p hp).1; omega, (c.2 p hp).2⟩⟩]
  exact h
 ·
  rw [if_neg c] at h; cases h
theorem slices_SortFunc_L.cmpi (a b : Int) : cmp_Compare_int.f a b = some (if a < b then -1 else if a > b then 1 else 0) := by
 unfold cmp_Compare_int.f cmp_isNaN_int.f
 simp only [Option.bind_some, bne_self_eq_false, Bool.false_eq_true, if_false]
 split
 ·
  rfl
 ·
  split <;> rfl
theorem slices_SortFunc_L.rdn (l : List Int) (i : Nat) (h : i < l.length) : rd l (i : Int) = l[i] := by
 unfold rd
 rw [show ((i : Int)).toNat = i from rfl]
 simp [h]
theorem slices_SortFunc_L.cmp_l (p q : List Int) (hp : p.length < 4611686018427387904) : ∀ (d k i : Nat), i + d = p.length → i ≤ q.length → d < k → slices_Compare_int_int.l0 k p q p (p.length : Int) i = some (if Go.Proofs.YtelkfhlnejlheaaW.Pick.cmpL (p.drop i) (q.drop i) = 0 then (if (p.length : Int) < (q.length : Int) then -1 else 0) else Go.Proofs.YtelkfhlnejlheaaW.Pick.cmpL (p.drop i) (q.drop i)) := by
 intro d
 induction d with
 | zero =>
  intro k i hd hq hk
  obtain ⟨k, rfl⟩ : ∃ m, k = m + 1 := ⟨k - 1, by omega⟩
  simp only [slices_Compare_int_int.l0]; rw [if_neg (by omega), List.drop_eq_nil_of_le (by omega)]
  by_cases h : i < q.length
  ·
   rw [List.drop_eq_getElem_cons h]
   simp only [Go.Proofs.YtelkfhlnejlheaaW.Pick.cmpL]
   rw [if_pos (by omega)]
   rfl
  ·
   rw [List.drop_eq_nil_of_le (by omega), if_neg (by omega)]
   simp only [Go.Proofs.YtelkfhlnejlheaaW.Pick.cmpL]
   rw [if_pos trivial, if_neg (by omega)]
 | succ d ih =>
  intro k i hd hq hk
  obtain ⟨k, rfl⟩ : ∃ m, k = m + 1 := ⟨k - 1, by omega⟩
  simp only [slices_Compare_int_int.l0]; rw [if_pos (by omega), if_pos (by omega), if_pos (by omega), List.drop_eq_getElem_cons (show i < p.length by omega)]
  by_cases h : i < q.length
  ·
   rw [if_neg (by omega), if_pos (by omega), slices_SortFunc_L.cmpi, Option.bind_some, slices_SortFunc_L.rdn p i (by omega), slices_SortFunc_L.rdn q i h, List.drop_eq_getElem_cons h]
   simp only [Go.Proofs.YtelkfhlnejlheaaW.Pick.cmpL]
   by_cases h1 : p[i] < q[i]
   ·
    simp only [if_pos h1]; rw [if_neg (by omega), if_neg (by omega)]
   ·
    by_cases h2 : p[i] > q[i]
    ·
     simp only [if_neg h1, if_pos h2]; rw [if_neg (by omega), if_neg (by omega)]
    ·
     simp only [if_neg h1, if_neg h2]
     rw [if_pos trivial, show wrap64 ((i : Int) + 1) = ((i + 1 : Nat) : Int) by unfold wrap64; omega]
     exact ih k (i + 1) (by omega) (by omega) (by omega)
  ·
   rw [if_pos (by omega), List.drop_eq_nil_of_le (show q.length ≤ i by omega)]
   rfl
theorem slices_SortFunc_L.cmpL_len {p q : List Int} (h : Go.Proofs.YtelkfhlnejlheaaW.Pick.cmpL p q = 0) : ¬ ((p.length : Int) < (q.length : Int)) := by
 rw [Go.Proofs.YtelkfhlnejlheaaW.Pick.cmpL_zero h]; omega
theorem slices_SortFunc_L.cmp_eq (k : Nat) (p q : List Int) (hp : p.length < 4611686018427387904) (hk : p.length < k) : slices_Compare_int_int.f k p q = some (Go.Proofs.YtelkfhlnejlheaaW.Pick.cmpL p q) := by
 unfold slices_Compare_int_int.f
 rw [show (0 : Int) = ((0 : Nat) : Int) from rfl, slices_SortFunc_L.cmp_l p q hp p.length k 0 (by omega) (by omega) hk, List.drop_zero, List.drop_zero]
 by_cases h : Go.Proofs.YtelkfhlnejlheaaW.Pick.cmpL p q = 0
 ·
  rw [if_pos h, if_neg (slices_SortFunc_L.cmpL_len h), h]
 ·
  rw [if_neg h]
set_option maxHeartbeats 4000000 in
set_option maxRecDepth 100000 in
theorem slices_SortFunc_L.calls (k : Nat) (P0_ : Nat → Prop) (u9000_ : Value) (l0 : List (List Int)) (r1 : List (List Int)) (w0 w : World) (hB : Below w0.heap.size w0 w) (ho0 : Kd.S (Kd.slice 3 (Kd.int .i64)) 25 w w0.heap.size P0_ u9000_ l0) (h : slices_SortFunc_L.f k l0 = some r1) :
  Calls Try.prog 106 #[u9000_, .func (.func 95) #[] #[]] w fun e w' => e = .returned (.tuple #[]) ∧ Kd.S (Kd.slice 3 (Kd.int .i64)) 25 w' w0.heap.size (fun k_ => (P0_ k_ ∨ w.heap.size ≤ k_)) u9000_ r1 ∧ Below w0.heap.size w0 w' ∧ Kept w w' (fun k_ => P0_ k_) := by
 unfold slices_SortFunc_L.f at h
 by_cases c : l0.length < 4611686018427387904 ∧ (∀ p ∈ l0, p.length < k ∧ p.length < 4611686018427387904)
 case neg => rw [if_neg c] at h; cases h
 rw [if_pos c] at h
 obtain rfl := Option.some.inj h
 obtain ⟨c1, c2⟩ := c
 by_cases hv : u9000_ = .slice none 0 0
 ·
  subst hv
  have hl0 : l0 = [] := by
   have := (Kd.S_reads' ho0).1
   exact List.length_eq_zero_iff.1 this.symm
  subst hl0
  have hcon := Go.Proofs.AnyF.slices_SortFunc_none (P := Try.prog) (ρ := Try.sortF_ren) { Try.sortF with } none 0 (.func (.func 95) #[] #[]) w
  change Calls Try.prog 106 _ _ _ at hcon
  refine hcon.mono ?_
  rintro e w' ⟨rfl, rfl⟩
  exact ⟨rfl, by simpa [Go.Proofs.YtelkfhlnejlheaaW.Pick.sortL] using Kd.S_nil _ _ _ _ _, hB, Kept.refl _ _⟩
 ·
  obtain ⟨inner, hil, ho, hone, hread, hk0, hpick⟩ := Go.Proofs.YtelkfhlnejlheaaW.Pick.S_open (d := Kd.slice 3 (Kd.int .i64)) rfl ho0
  have hmap : (List.range l0.length).map (fun i => inner.getD i (.slice none 0 0)) = inner := by
   apply List.ext_getElem (by simp [hil])
   intro i h1 h2
   simp [List.getD_eq_getElem?_getD, h2]
  have ho' := ho
  rw [← hmap] at ho'
  obtain ⟨g, cap, rfl, hbg, hgl, hn, hm, _, hH⟩ := Go.Lib.holds_of_ownsRow ho' hv
  have hgo : ∀ k_, some k_ ≠ (Value.slice (some ⟨g, 0, none⟩) l0.length cap).ownBlock → k_ ≠ g := fun k_ hk he => hk (by rw [he]; simp [Value.ownBlock])
  have hO : Go.Sort.SWO (Go.Proofs.ltOf fun i j : Nat => Go.Proofs.YtelkfhlnejlheaaW.Pick.cmpL (l0.getD i []) (l0.getD j [])) :=
   ⟨fun x => Go.Proofs.YtelkfhlnejlheaaW.Pick.ltL_irrefl _, fun x y z h1 h2 => Go.Proofs.YtelkfhlnejlheaaW.Pick.ltL_trans h1 h2, fun x y z h1 h2 => Go.Proofs.YtelkfhlnejlheaaW.Pick.ltL_ntrans h1 h2⟩
  have h1c : Go.Proofs.OneCell (fun i : Nat => inner.getD i (.slice none 0 0)) := fun i => by
   show (inner.getD i (.slice none 0 0)).oneCell' = true
   rw [List.getD_eq_getElem?_getD]
   by_cases hi : i < inner.length
   ·
    rw [List.getElem?_eq_getElem hi]; exact hone _ (List.getElem_mem hi)
   ·
    rw [List.getElem?_eq_none (by omega)]; rfl
  have eg : ∀ args w, (callFunc 95 args).run Try.prog w = .ok (.enter 95 args) w := enters_of Try.func95 (by kernel_rfl) rfl
  have hsame : ∀ (q : Nat) (os : Array Obj) (dk : Array Nat) (k_ : Nat), k_ < w.heap.size → k_ ≠ g → (Go.Proofs.sortWorld (fun i : Nat => inner.getD i (.slice none 0 0)) w g 0 q dk os).heap[k_]? = w.heap[k_]? := by
   intro q os dk k_ hk hne
   unfold Go.Proofs.sortWorld
   rw [Go.Sort.heap_grow_old _ _ (by simpa using hk)]
   simp [Go.Sort.putRow, Go.Sort.mapBlock, Go.Sort.ahead, Array.getElem?_modify, Ne.symm hne]
  have hrd : ∀ (i q : Nat) (os : Array Obj) (dk : Array Nat), ∃ A c, inner.getD i (.slice none 0 0) = .slice A (l0.getD i []).length c ∧ (l0.getD i []).length ≤ c ∧ Kd.C (Kd.int .i64) (Go.Proofs.sortWorld (fun i : Nat => inner.getD i (.slice none 0 0)) w g 0 q dk os) A (l0.getD i []).length (l0.getD i []) := by
   intro i q os dk
   by_cases hi : i < l0.length
   ·
    obtain ⟨cv, hcv, hF⟩ := hread i _ (List.getElem?_eq_getElem hi)
    obtain ⟨A, cc, he, hle, hC⟩ := Kd.FK_now (Kd.FK_step (W1 := Go.Proofs.sortWorld (fun i : Nat => inner.getD i (.slice none 0 0)) w g 0 q dk os) hF (fun k_ hk hlt => hsame q os dk k_ hlt (hgo k_ hk.2)))
    injection he with he _
    refine ⟨A, cc, ?_, ?_, ?_⟩
    ·
     rw [List.getD_eq_getElem?_getD, hcv, Option.getD_some, he, List.getD_eq_getElem?_getD, List.getElem?_eq_getElem hi, Option.getD_some]
    ·
     rw [List.getD_eq_getElem?_getD, List.getElem?_eq_getElem hi]; exact hle
    ·
     rw [List.getD_eq_getElem?_getD, List.getElem?_eq_getElem hi]; exact hC
   ·
    refine ⟨none, 0, ?_, ?_, ?_⟩
    ·
     rw [List.getD_eq_getElem?_getD, List.getElem?_eq_none (by omega), List.getD_eq_getElem?_getD, List.getElem?_eq_none (by omega)]; rfl
    ·
     rw [List.getD_eq_getElem?_getD, List.getElem?_eq_none (by omega)]; exact Nat.le_refl _
    ·
     rw [List.getD_eq_getElem?_getD, List.getElem?_eq_none (by omega)]; exact Kd.C_nil _ _
  have hlen : ∀ i, (l0.getD i []).length < k ∧ (l0.getD i []).length < 4611686018427387904 ∨ l0.getD i [] = [] := by
   intro i
   by_cases hi : i < l0.length
   ·
    rw [List.getD_eq_getElem?_getD, List.getElem?_eq_getElem hi]; exact .inl (c2 _ (List.getElem_mem hi))
   ·
    rw [List.getD_eq_getElem?_getD, List.getElem?_eq_none (by omega)]; exact .inr rfl
  have hcmp : Go.Proofs.CmpLays1 Try.prog 95 #[] (fun i : Nat => inner.getD i (.slice none 0 0)) (fun i j : Nat => Go.Proofs.YtelkfhlnejlheaaW.Pick.cmpL (l0.getD i []) (l0.getD j [])) g 0 (List.range l0.length).toArray.size w := by
   intro q os dk _ x y
   obtain ⟨A, cc, e1, l1, C1⟩ := hrd x q os dk
   obtain ⟨A', cc', e2, l2, C2⟩ := hrd y q os dk
   show Calls Try.prog 95 #[inner.getD x (.slice none 0 0), inner.getD y (.slice none 0 0)] _ _
   rw [e1, e2]
   have hf : slices_Compare_int_int.f (k + 1) (l0.getD x []) (l0.getD y []) = some (Go.Proofs.YtelkfhlnejlheaaW.Pick.cmpL (l0.getD x []) (l0.getD y [])) := by
    rcases hlen x with h | h
    ·
     exact slices_SortFunc_L.cmp_eq _ _ _ h.2 (by omega)
    ·
     rw [h]; exact slices_SortFunc_L.cmp_eq _ _ _ (by simp) (by simp)
   refine (slices_Compare_int_int.calls (k + 1) A cc _ A' cc' _ _ _ C1 l1 C2 l2 hf).mono ?_
   rintro e w' ⟨rfl, ⟨nd, rfl⟩⟩
   exact ⟨rfl, nd, #[], (Go.Sort.grow_empty _).symm⟩
  have hcon := Go.Proofs.Any.slices_SortFunc Try.sortF (fun i : Nat => inner.getD i (.slice none 0 0)) h1c _ hO 95 #[] g 0 cap (List.range l0.length).toArray w eg hcmp hH hgl (by simpa using c1)
  change Calls Try.prog 106 _ _ _ at hcon
  rw [show (List.range l0.length).toArray.size = l0.length by simp] at hcon
  refine hcon.mono ?_
  rintro e w' ⟨rfl, d', q, os, hp, hs, rfl⟩
  have hds : d'.size = l0.length := by rw [hp.1]; simp
  have hperm : d'.toList.Perm (List.range l0.length) := by
   have h3 := hp.2.2
   rw [Array.extract_eq_self_of_le (by omega), Array.extract_eq_self_of_le (by simp)] at h3
   exact h3
  have hnd : d'.toList.Nodup := hperm.nodup_iff.2 List.nodup_range
  have hlt : ∀ i ∈ d'.toList, i < l0.length := fun i hi => List.mem_range.1 (hperm.mem_iff.1 hi)
  have hr : (d'.toList.map fun i => l0.getD i []) = Go.Proofs.YtelkfhlnejlheaaW.Pick.sortL l0 := by
   refine Go.Proofs.YtelkfhlnejlheaaW.Pick.sortL_unique ?_ ?_
   ·
    have h4 := hperm.map (fun i => l0.getD i [])
    rwa [show (List.range l0.length).map (fun i => l0.getD i []) = l0 from by
     apply List.ext_getElem (by simp)
     intro i h1 h2
     simp [List.getD_eq_getElem?_getD, h2]] at h4
   ·
    rw [List.pairwise_map, List.pairwise_iff_getElem]
    intro i j hi hj hij
    have h5 := hs i j (Nat.zero_le _) hij (by simpa [hds] using hj)
    rw [Array.length_toList] at hi hj
    rw [getElem!_pos d' i hi, getElem!_pos d' j hj] at h5
    show (!Go.Proofs.YtelkfhlnejlheaaW.Pick.ltL _ _) = true
    rw [Bool.not_eq_true']
    exact h5
  have hg : w.grownBy (Go.Proofs.sortWorld (fun i : Nat => inner.getD i (.slice none 0 0)) w g 0 q d' os) (some g) := by
   refine ⟨rfl, rfl, rfl, by simp [Go.Proofs.sortWorld], fun k_ hk hne => hsame q os d' k_ hk (fun e => hne (by rw [e]))⟩
  refine ⟨rfl, ?_, hB.grown hg hB.size (fun j hj => by cases hj; exact hbg), Kept.of_grown hg (Kept.refl _ _) (fun k_ hk => .inl (by cases hk; exact hk0 g (by simp [Value.ownBlock])))⟩
  rw [← hr]
  refine hpick _ _ _ _ d'.toList [] (Nat.le_refl _) hnd hlt ?_ (fun k_ hk => .inl (hk0 k_ hk)) (fun k_ hok hne hb hlt2 => ⟨hsame q os d' k_ hlt2 (hgo k_ hne), .inl hok, hne⟩)
  rw [show d'.toList.length = l0.length by rw [Array.length_toList, hds]]
  obtain ⟨g', cap', cur, hvv, hb1, hb2, hb3, hb4, hb5, _⟩ : ∃ g' cap' cur, Value.slice (some ⟨g, 0, none⟩) l0.length cap = .slice (some ⟨g', 0, none⟩) l0.length cap' ∧ w0.heap.size ≤ g' ∧ w.heap[g']? = some (.cells cur 25 (0, 0)) ∧ l0.length ≤ cap' ∧ cap' ≤ maxLen ∧ cur.size = cap' * 1 ∧ True := by
   rcases ho.2 with ⟨h0, _⟩ | ⟨g', cap', cur, hv', a1, a2, a3, a4, a5, _⟩
   ·
    cases h0
   ·
    exact ⟨g', cap', cur, hv', a1, a2, a3, a4, a5, trivial⟩
  cases hvv
  refine ⟨by simp [hds], .inr ⟨g, cap, Go.Sort.putCells (fun i : Nat => inner.getD i (.slice none 0 0)) 0 d' cur, rfl, hb1, ?_, hb3, hb4, by simp [Go.Sort.putCells, hb5], ?_⟩⟩
  ·
   unfold Go.Proofs.sortWorld
   rw [Go.Sort.heap_grow_old _ _ (by simpa using hgl)]
   simp [Go.Sort.putRow, Go.Sort.mapBlock, Go.Sort.ahead, Array.getElem?_modify, hb2, Go.Sort.onCells]
  ·
   apply List.ext_getElem?
   intro j
   rw [Nat.mul_one]
   by_cases hj : j < l0.length
   ·
    rw [List.getElem?_take_of_lt hj, Array.getElem?_toList]
    have hjd : j < d'.size := by omega
    simp [Go.Sort.putCells, hjd, show j < cur.size by omega]
   ·
    rw [List.getElem?_take_eq_none (by omega), List.getElem?_eq_none (by simp; omega)]

/-! ### impl_AllComplete: function 70 -/
mutual
def impl_AllComplete.l0 : Nat → List (List Int) → Int → Int → Int → List (List Int) → Option ((List (List Int)))
 | 0, _, _, _, _, _ => none
 | k + 1, x3, x14, x15, x411000, x411001 => if x15 < x14 then (impl_AllComplete.l1 k x3 x15 (([] : List Int)) x14 x15 x411000 0 x411000 x411001) else ((slices_SortFunc_L.f k x3).bind fun t415 => (some t415))
def impl_AllComplete.l1 : Nat → List (List Int) → Int → List Int → Int → Int → Int → Int → Int → List (List Int) → Option ((List (List Int)))
 | 0, _, _, _, _, _, _, _, _, _ => none
 | k + 1, x3, x4, x5, x14, x15, x20, x21, x411000, x411001 => if x21 < x20 then (if 0 ≤ x21 then (if (Go.bits .and .i64 (shr .i64 x4 x21) 1) = 1 then (if x5.length < 17592186044416 then (impl_AllComplete.l1 k x3 x4 (x5 ++ [x21]) x14 x15 x20 (wrap64 (x21 + 1)) x411000 x411001) else (none)) else (impl_AllComplete.l1 k x3 x4 x5 x14 x15 x20 (wrap64 (x21 + 1)) x411000 x411001)) else (none)) else ((impl_IsComplete.f k x411000 x411001 x5).bind fun t422 => (if t422 = true then (if x3.length < 5864062014805 then (impl_AllComplete.l0 k (x3 ++ [x5]) x14 (wrap64 (x15 + 1)) x411000 x411001) else (none)) else (impl_AllComplete.l0 k x3 x14 (wrap64 (x15 + 1)) x411000 x411001)))
end
def impl_AllComplete.f (k : Nat) (a0_0 : Int) (l0_1 : List (List Int)) : Option ((List (List Int))) := (some (([] : List (List Int)) : List (List Int))).bind fun y411 => ((impl_IsGraph.f k a0_0 l0_1).bind fun t414 => (if t414 = true then (if 0 ≤ a0_0 then (impl_AllComplete.l0 k y411 (shl .i64 1 a0_0) 0 a0_0 l0_1) else (none)) else (some y411)))
theorem impl_AllComplete.mono_l : ∀ k, (∀ y0 y1 y2 y3 y4, LeO (impl_AllComplete.l0 k y0 y1 y2 y3 y4) (impl_AllComplete.l0 (k + 1) y0 y1 y2 y3 y4)) ∧ (∀ y0 y1 y2 y3 y4 y5 y6 y7 y8, LeO (impl_AllComplete.l1 k y0 y1 y2 y3 y4 y5 y6 y7 y8) (impl_AllComplete.l1 (k + 1) y0 y1 y2 y3 y4 y5 y6 y7 y8))
 | 0 => ⟨fun _ _ _ _ _ r h => by simp [impl_AllComplete.l0] at h, fun _ _ _ _ _ _ _ _ _ r h => by simp [impl_AllComplete.l1] at h⟩
 | k + 1 => by
  obtain ⟨ih0, ih1⟩ := impl_AllComplete.mono_l k
  refine ⟨?_, ?_⟩
  ·
   intro y0 y1 y2 y3 y4
   unfold impl_AllComplete.l0
   repeat' with_reducible first | exact ih0 _ _ _ _ _ | exact ih1 _ _ _ _ _ _ _ _ _ | exact impl_IsComplete.mono _ _ _ _ | exact impl_IsGraph.mono _ _ _ | exact slices_SortFunc_L.mono _ _ | exact LeO.refl _ | exact LeO.none _ | refine LeO.ite ?_ ?_ | refine LeO.bind ?_ (fun _ => ?_)
  ·
   intro y0 y1 y2 y3 y4 y5 y6 y7 y8
   unfold impl_AllComplete.l1
   repeat' with_reducible first | exact ih0 _ _ _ _ _ | exact ih1 _ _ _ _ _ _ _ _ _ | exact impl_IsComplete.mono _ _ _ _ | exact impl_IsGraph.mono _ _ _ | exact slices_SortFunc_L.mono _ _ | exact LeO.refl _ | exact LeO.none _ | refine LeO.ite ?_ ?_ | refine LeO.bind ?_ (fun _ => ?_)
theorem impl_AllComplete.mono : ∀ a0 a1 k, LeO (impl_AllComplete.f k a0 a1) (impl_AllComplete.f (k + 1) a0 a1) := by
 intro a0 a1 k
 obtain ⟨ih0, ih1⟩ := impl_AllComplete.mono_l k
 unfold impl_AllComplete.f
 repeat' with_reducible first | exact ih0 _ _ _ _ _ | exact ih1 _ _ _ _ _ _ _ _ _ | exact impl_IsComplete.mono _ _ _ _ | exact impl_IsGraph.mono _ _ _ | exact slices_SortFunc_L.mono _ _ | exact LeO.refl _ | exact LeO.none _ | refine LeO.ite ?_ ?_ | refine LeO.bind ?_ (fun _ => ?_)
set_option maxHeartbeats 8000000 in
set_option maxRecDepth 100000 in
theorem impl_AllComplete.calls (k : Nat) (a0_0 : Int) (A0_1 : Option Addr) (c0_1 : Nat) (l0_1 : List (List Int)) (r : List (List Int)) (w : World) (hr0_1 : Kd.C (Kd.slice 3 (Kd.int .i64)) w A0_1 l0_1.length l0_1) (hc0_1 : l0_1.length ≤ c0_1) (h : impl_AllComplete.f k a0_0 l0_1 = some r) :
  Calls Try.prog 70 #[.agg #[.int .i64 a0_0, .slice A0_1 l0_1.length c0_1]] w fun e w' => ∃ v0_ : Value, e = .returned (v0_) ∧ Kd.S (Kd.slice 3 (Kd.int .i64)) 25 w' w.heap.size (fun _ => True) v0_ r ∧ Below w.heap.size w w' := by
 have hu28 := Try.underlying28
 have HR0_1 := Aside0.mk hr0_1
 have HC0_1 := Aside0.mk hc0_1
 clear hr0_1 hc0_1
 have HB := Aside0.mk (Below.refl w.heap.size w)
 have H : ((some (([] : List (List Int)) : List (List Int))).bind fun y411 => ((impl_IsGraph.f k a0_0 l0_1).bind fun t414 => (if t414 = true then (if 0 ≤ a0_0 then (impl_AllComplete.l0 k y411 (shl .i64 1 a0_0) 0 a0_0 l0_1) else (none)) else (some y411)))) = some r := h
 clear h
 obtain ⟨y411, hy411⟩ : ∃ y_ : List (List Int), y_ = (([] : List (List Int))) := ⟨_, rfl⟩
 replace H : ((impl_IsGraph.f k a0_0 l0_1).bind fun t414 => (if t414 = true then (if 0 ≤ a0_0 then (impl_AllComplete.l0 k y411 (shl .i64 1 a0_0) 0 a0_0 l0_1) else (none)) else (some y411))) = some r := by first | (rw [hy411]; with_reducible exact H) | (have H2_ := (Option.bind_some _ _).symm.trans H; rw [hy411]; with_reducible exact H2_) | (have H2_ := (Option.bind_some _ _).symm.trans H; with_reducible exact H2_) | with_reducible exact H | (rw [hy411]; exact H) | exact H
 have Ny411 := Aside0.mk hy411
 clear hy411
 replace H := Option.bind_eq_some_iff.mp H
 obtain ⟨t414, A20, H⟩ := H
 have A2 := Aside0.mk A20
 clear A20
 by_cases c3 : t414 = true
 rotate_left
 ·
  replace c3 := Bool.eq_false_iff.mpr c3
  subst c3
  rw [if_neg (show ¬ (false = true) by decide)] at H
  obtain rfl := Option.some.inj H
  go_enter Try.func70, Try.ntmps70
  go_wp2_with (first | ((with_reducible refine gate_dst (N := 1) rfl ?_); refine box_event ?hg (N := 1) ?hd (cs := #[.int .i64 a0_0, .slice A0_1 l0_1.length c0_1]) (t := 28) ?hr ?_; (case hd => rfl); (case hg => rfl); (case hr => first | (go_simp; done) | (go_simp; rfl)); intro gb410 hg w35 hbox hb; have n0_ := Aside0.mk (below_step (mB HB.out) hb); have n1_ := Aside0.mk (hbox); have n2_ := Aside0.mk ((by rw [hg]; exact (below_size (mB HB.out)) : w.heap.size ≤ gb410)); have n3_ := Aside0.mk ((by rw [hg]; exact (below_size (mB HB.out)) : w.heap.size ≤ gb410)); clear HB; have HB := n0_; have BK410 := n1_; have GW410 := n2_; have GE410 := n3_; clear n0_ n1_ n2_ n3_; clear hb hbox hg) | ((with_reducible refine gate_dst (N := 7) rfl ?_); refine Kd.S_lit (Kd.slice 3 (Kd.int .i64)) _ 25 ?hg (N := 7) ?hd (xs := ([] : List (List Int))) (inner := []) (ok := fun _ => True) (okp := fun _ => True) ?hr ?hp (fun _ hk => hk) trivial (Below.refl _ _) (Nat.le_refl _) (by simp) ?_; (case hd => rfl); (case hg => rfl); (case hr => first | (go_simp; done) | (go_simp; rfl)); (case hp => exact (Reps.none _ _)); intro v412 w36 ho37 hb hg_ hnew_; clear hg_ hnew_; (first | rw [← Ny411.out] at ho37 | (simp only [Int.reduceToNat] at ho37; rw [← Ny411.out] at ho37)); have n0_ := Aside0.mk (Kd.S_lower ho37 (below_size mG)); have n1_ := Aside0.mk (blk_below (g := gb410) (o := .cells #[.int .i64 a0_0, .slice A0_1 l0_1.length c0_1] 28 (0, 0)) ((mK (BK410.out))) hb); have n2_ := Aside0.mk (below_step mG hb); clear BK410 HB; have HO413 := n0_; have BK410 := n1_; have HB := n2_; clear n0_ n1_ n2_; clear hb ho37; have hcz38_0 : w36.cell? ⟨gb410, 0, none⟩ = some (.int .i64 a0_0) := (blk_cell BK410.out 0).trans rfl; have hcz38_1 : w36.cell? ⟨gb410, 1, none⟩ = some (.slice A0_1 l0_1.length c0_1) := (blk_cell BK410.out 1).trans rfl; have hfz38_0 := blk_frozen BK410.out 0; have hfz38_1 := blk_frozen BK410.out 1) | ((with_reducible refine gate_callee (f := 49) rfl ?_); refine goesL_ (some 9) rfl rfl Try.func49 (by kernel_rfl) rfl #[.agg #[.int .i64 a0_0, .slice A0_1 l0_1.length c0_1]] rfl mA ?_; (with_reducible refine (impl_IsGraph.calls k a0_0 _ _ l0_1 false _ ?side1 ?side2 A2.out).mono ?_); (case side1 => exact mC (Kd.C_below HR0_1.out HB.out)); (case side2 => exact HC0_1.out); rintro e w39 ⟨rfl, hb⟩; refine ⟨_, rfl, ?_⟩; have n0_ := Aside0.mk (Kd.S_below (mS HO413.out) hb); have n1_ := Aside0.mk (blk_below (g := gb410) (o := .cells #[.int .i64 a0_0, .slice A0_1 l0_1.length c0_1] 28 (0, 0)) ((mK (BK410.out))) hb); have n2_ := Aside0.mk (below_step mG hb); clear HO413 BK410 HB; have HO413 := n0_; have BK410 := n1_; have HB := n2_; clear n0_ n1_ n2_; (try clear hb)))
  go_ret
  exact ⟨_, mE, by (with_reducible repeat (first | apply Kd.S_alloc | apply Kd.S_drewN | apply Kd.S_drew)); exact HO413.out, mG⟩
 subst c3
 rw [if_pos rfl] at H
 by_cases c4 : 0 ≤ a0_0
 rotate_left
 ·
  rw [if_neg c4] at H
  exact absurd H (by simp)
 rw [if_pos c4] at H
 have c4b0 := eq_true c4
 have c4b1 : decide (0 ≤ a0_0) = true := decide_eq_true c4
 clear c4
 obtain ⟨ji5, hji5⟩ : ∃ j_ : Int, (shl .i64 1 a0_0) = j_ := ⟨_, rfl⟩
 replace H : (impl_AllComplete.l0 k y411 ji5 0 a0_0 l0_1) = some r := by first | (rw [hji5] at H; exact H) | (simp only [hji5] at H ⊢; exact H)
 (try rw [hji5] at A2)
 have hji5_ : (IntKind.i64.wrap (1 * 2 ^ min a0_0.toNat 64)) = ji5 := hji5
 have hji5z : a0_0 ≤ 64 → (IntKind.i64.wrap (1 * 2 ^ a0_0.toNat)) = ji5 := shl_small hji5
 have hji5u : (IntKind.i64.wrap (2 ^ min a0_0.toNat 64)) = ji5 := by have h_ := hji5_; rw [Int.one_mul] at h_; exact h_
 have hji5v : a0_0 ≤ 64 → (IntKind.i64.wrap (2 ^ a0_0.toNat)) = ji5 := fun hle_ => by have h_ := hji5z hle_; rw [Int.one_mul] at h_; exact h_
 have hji5y : (wrap64 (1 * 2 ^ min a0_0.toNat 64)) = ji5 := (i64_w _).symm.trans hji5_
 have hji5x : a0_0 ≤ 64 → (wrap64 (1 * 2 ^ a0_0.toNat)) = ji5 := fun h_ => (i64_w _).symm.trans (hji5z h_)
 have H' := Aside0.mk H
 clear H
 go_enter Try.func70, Try.ntmps70
 go_wp2_with (first | ((with_reducible refine gate_dst (N := 1) rfl ?_); refine box_event ?hg (N := 1) ?hd (cs := #[.int .i64 a0_0, .slice A0_1 l0_1.length c0_1]) (t := 28) ?hr ?_; (case hd => rfl); (case hg => rfl); (case hr => first | (go_simp; done) | (go_simp; rfl)); intro gb410 hg w6 hbox hb; have n0_ := Aside0.mk (below_step (mB HB.out) hb); have n1_ := Aside0.mk (hbox); have n2_ := Aside0.mk ((by rw [hg]; exact (below_size (mB HB.out)) : w.heap.size ≤ gb410)); have n3_ := Aside0.mk ((by rw [hg]; exact (below_size (mB HB.out)) : w.heap.size ≤ gb410)); clear HB; have HB := n0_; have BK410 := n1_; have GW410 := n2_; have GE410 := n3_; clear n0_ n1_ n2_ n3_; clear hb hbox hg) | ((with_reducible refine gate_dst (N := 7) rfl ?_); refine Kd.S_lit (Kd.slice 3 (Kd.int .i64)) _ 25 ?hg (N := 7) ?hd (xs := ([] : List (List Int))) (inner := []) (ok := fun _ => True) (okp := fun _ => True) ?hr ?hp (fun _ hk => hk) trivial (Below.refl _ _) (Nat.le_refl _) (by simp) ?_; (case hd => rfl); (case hg => rfl); (case hr => first | (go_simp; done) | (go_simp; rfl)); (case hp => exact (Reps.none _ _)); intro v412 w7 ho8 hb hg_ hnew_; clear hg_ hnew_; (first | rw [← Ny411.out] at ho8 | (simp only [Int.reduceToNat] at ho8; rw [← Ny411.out] at ho8)); have n0_ := Aside0.mk (Kd.S_lower ho8 (below_size mG)); have n1_ := Aside0.mk (blk_below (g := gb410) (o := .cells #[.int .i64 a0_0, .slice A0_1 l0_1.length c0_1] 28 (0, 0)) ((mK (BK410.out))) hb); have n2_ := Aside0.mk (below_step mG hb); clear BK410 HB; have HO413 := n0_; have BK410 := n1_; have HB := n2_; clear n0_ n1_ n2_; clear hb ho8; have hcz9_0 : w7.cell? ⟨gb410, 0, none⟩ = some (.int .i64 a0_0) := (blk_cell BK410.out 0).trans rfl; have hcz9_1 : w7.cell? ⟨gb410, 1, none⟩ = some (.slice A0_1 l0_1.length c0_1) := (blk_cell BK410.out 1).trans rfl; have hfz9_0 := blk_frozen BK410.out 0; have hfz9_1 := blk_frozen BK410.out 1) | ((with_reducible refine gate_callee (f := 49) rfl ?_); refine goesL_ (some 9) rfl rfl Try.func49 (by kernel_rfl) rfl #[.agg #[.int .i64 a0_0, .slice A0_1 l0_1.length c0_1]] rfl mA ?_; (with_reducible refine (impl_IsGraph.calls k a0_0 _ _ l0_1 true _ ?side1 ?side2 A2.out).mono ?_); (case side1 => exact mC (Kd.C_below HR0_1.out HB.out)); (case side2 => exact HC0_1.out); rintro e w10 ⟨rfl, hb⟩; refine ⟨_, rfl, ?_⟩; have n0_ := Aside0.mk (Kd.S_below (mS HO413.out) hb); have n1_ := Aside0.mk (blk_below (g := gb410) (o := .cells #[.int .i64 a0_0, .slice A0_1 l0_1.length c0_1] 28 (0, 0)) ((mK (BK410.out))) hb); have n2_ := Aside0.mk (below_step mG hb); clear HO413 BK410 HB; have HO413 := n0_; have BK410 := n1_; have HB := n2_; clear n0_ n1_ n2_; (try clear hb); have hcz11_0 : w10.cell? ⟨gb410, 0, none⟩ = some (.int .i64 a0_0) := (blk_cell BK410.out 0).trans rfl; have hcz11_1 : w10.cell? ⟨gb410, 1, none⟩ = some (.slice A0_1 l0_1.length c0_1) := (blk_cell BK410.out 1).trans rfl; have hfz11_0 := blk_frozen BK410.out 0; have hfz11_1 := blk_frozen BK410.out 1))
 go_loopg [3, 15] k (fun kq v3 v15 w' => ∃ (x3_1 : List (List Int)) (x15_1 : Int), v15 = .int .i64 x15_1 ∧ Aside0 (impl_AllComplete.l0 kq x3_1 ji5 x15_1 a0_0 l0_1 = some r) ∧ Aside0 (kq ≤ k) ∧ Aside0 (Kd.S (Kd.slice 3 (Kd.int .i64)) 25 w' w.heap.size (fun _ => True) v3 x3_1) ∧ Aside0 (w'.heap[gb410]? = some (.cells #[.int .i64 a0_0, (.slice A0_1 l0_1.length c0_1)] 28 (0, 0))) ∧ Aside0 (Below w.heap.size w w'))
 case atStart => exact ⟨(y411), (0), mF, H', ⟨Nat.le_refl _⟩, ⟨mS HO413.out⟩, ⟨(mK (BK410.out))⟩, ⟨mG⟩⟩
 case round =>
  clear H'
  (try clear c4b0); (try clear c4b1); (try clear hcz11_0); (try clear hcz11_1); (try clear hcz9_0); (try clear hcz9_1); (try clear hfz11_0); (try clear hfz11_1); (try clear hfz9_0); (try clear hfz9_1)
  obtain ⟨x3_1, x15_1, rfl, HA, HK1, HO_3, BK410, HB⟩ := hrel
  cases gk with
  | zero => exact absurd HA.out (by simp [impl_AllComplete.l0])
  | succ k1 =>
   have H := HA.out
   clear HA
   simp only [impl_AllComplete.l0] at H
   by_cases c12 : x15_1 < ji5
   rotate_left
   ·
    rw [if_neg c12] at H
    have c12b0 : decide (x15_1 < ji5) = false := decide_eq_false c12
    clear c12
    replace H := Option.bind_eq_some_iff.mp H
    obtain ⟨t415, A320, H⟩ := H
    have A32 := Aside0.mk A320
    clear A320
    obtain rfl := Option.some.inj H
    obtain ⟨Ao33, co33, eo33⟩ := Kd.S_slice HO_3.out
    subst eo33
    go_wp2_with (first | ((with_reducible refine gate_callee (f := 106) rfl ?_); refine goesL_ (some 43) rfl rfl Try.func106 (by kernel_rfl) rfl #[.slice Ao33 x3_1.length co33, .func (.func 95) #[] #[]] rfl mA ?_; (with_reducible refine (slices_SortFunc_L.calls k1 ?pz_ (.slice Ao33 x3_1.length co33) x3_1 t415 w _ ?side1 ?side2 A32.out).mono ?_); (case side1 => repeat (first | (with_reducible first | exact HB.out | apply below_alloc | apply pw_below_drewN | apply below_drew1 | refine below_set ?_ GE410.out) | exact HB.out)); (case side2 => exact Kd.S_bound HO_3.out); rintro e w34 ⟨rfl, hy0, hb, hkp⟩; refine ⟨_, rfl, ?_⟩; have n0_ := Aside0.mk (Kd.S_mono (ok' := fun _ => True) hy0 (fun _ _ => trivial)); have n1_ := Aside0.mk (blk_kept ((mK (BK410.out))) hkp (fun hs_ => (fun p_ => Go.Proofs.YtelkfhlnejlheaaW.Marks.bound_ne p_.2.2.2 BK410.out (by decide)) hs_)); have n2_ := Aside0.mk (hb); clear HO_3 BK410 HB; have HO_3 := n0_; have BK410 := n1_; have HB := n2_; clear n0_ n1_ n2_; (try clear hb); (try clear hkp); (try clear hy0)))
    go_ret
    exact ⟨_, by first | rfl | (simp [errW_none, errW_some] <;> rfl) | (simp only [← hji5]; first | rfl | (simp [errW_none, errW_some] <;> rfl)) | (simp [*, errW_none, errW_some] <;> rfl), by (with_reducible repeat (first | apply Kd.S_alloc | apply Kd.S_drewN | apply Kd.S_drew)); exact HO_3.out, mG⟩
   rw [if_pos c12] at H
   have c12b0 : decide (x15_1 < ji5) = true := decide_eq_true c12
   clear c12
   obtain ⟨y416, hy416⟩ : ∃ y_ : List Int, y_ = (([] : List Int)) := ⟨_, rfl⟩
   replace H : (impl_AllComplete.l1 k1 x3_1 x15_1 y416 ji5 x15_1 a0_0 0 a0_0 l0_1) = some r := by first | (rw [hy416]; with_reducible exact H) | (have H2_ := (Option.bind_some _ _).symm.trans H; rw [hy416]; with_reducible exact H2_) | (have H2_ := (Option.bind_some _ _).symm.trans H; with_reducible exact H2_) | with_reducible exact H | (rw [hy416]; exact H) | exact H
   have Ny416 := Aside0.mk hy416
   clear hy416
   have H' := Aside0.mk H
   clear H
   go_wp2_with (first | ((with_reducible refine gate_dst (N := 18) rfl ?_); refine Kd.R_lit (Kd.int .i64) _ 3 ?hg (N := 18) ?hd (xs := ([] : List Int)) (inner := []) (ok := fun _ => True) (okp := fun _ => True) ?hr ?hp (fun _ hk => hk) trivial (Below.refl _ _) (Nat.le_refl _) (by simp) ?_; (case hd => rfl); (case hg => rfl); (case hr => first | (go_simp; done) | (go_simp; rfl)); (case hp => exact (Reps.none _ _)); intro v417 w13 ho14 hb hg_ hnew_; clear hg_ hnew_; (first | rw [← Ny416.out] at ho14 | (simp only [Int.reduceToNat] at ho14; rw [← Ny416.out] at ho14)); have n0_ := Aside0.mk (Kd.S_elder' (mS HO_3.out) (Kd.R_base ho14) hb); have n1_ := Aside0.mk (Kd.R_lower ho14 (below_size mG)); have n2_ := Aside0.mk (blk_below (g := gb410) (o := .cells #[.int .i64 a0_0, .slice A0_1 l0_1.length c0_1] 28 (0, 0)) ((mK (BK410.out))) hb); have n3_ := Aside0.mk (below_step mG hb); clear HO_3 BK410 HB; have HO_3 := n0_; have HO418 := n1_; have BK410 := n2_; have HB := n3_; clear n0_ n1_ n2_ n3_; clear hb ho14; have hcz15_0 : w13.cell? ⟨gb410, 0, none⟩ = some (.int .i64 a0_0) := (blk_cell BK410.out 0).trans rfl; have hcz15_1 : w13.cell? ⟨gb410, 1, none⟩ = some (.slice A0_1 l0_1.length c0_1) := (blk_cell BK410.out 1).trans rfl; have hfz15_0 := blk_frozen BK410.out 0; have hfz15_1 := blk_frozen BK410.out 1))
   go_loopg [5, 21] k1 (fun kq v5 v21 w' => ∃ (x5_2 : List Int) (x21_2 : Int), v21 = .int .i64 x21_2 ∧ Aside0 (impl_AllComplete.l1 kq x3_1 x15_1 x5_2 ji5 x15_1 a0_0 x21_2 a0_0 l0_1 = some r) ∧ Aside0 (kq ≤ k1) ∧ Aside0 (Kd.S (Kd.slice 3 (Kd.int .i64)) 25 w' w.heap.size (fun k_ => some k_ ≠ (v5 : Value).ownBlock) u3 x3_1) ∧ Aside0 (Kd.R (Kd.int .i64) 3 w' w.heap.size (fun _ => True) v5 x5_2) ∧ Aside0 (w'.heap[gb410]? = some (.cells #[.int .i64 a0_0, (.slice A0_1 l0_1.length c0_1)] 28 (0, 0))) ∧ Aside0 (Below w.heap.size w w'))
   case atStart => exact ⟨(y416), (0), mF, H', ⟨Nat.le_refl _⟩, ⟨by (with_reducible repeat (first | apply Kd.S_alloc | apply Kd.S_drewN | apply Kd.S_drew)); exact Kd.S_mono HO_3.out (fun _ hk => hk.2)⟩, ⟨mR HO418.out⟩, ⟨(mK (BK410.out))⟩, ⟨mG⟩⟩
   case round =>
    clear H'
    (try clear c4b0); (try clear c4b1); (try clear c12b0); (try clear hcz11_0); (try clear hcz11_1); (try clear hcz15_0); (try clear hcz15_1); (try clear hcz9_0); (try clear hcz9_1); (try clear hfz11_0); (try clear hfz11_1); (try clear hfz15_0); (try clear hfz15_1); (try clear hfz9_0); (try clear hfz9_1)
    obtain ⟨x5_2, x21_2, rfl, HA, HK2, HO_3, HO_5, BK410, HB⟩ := hrel
    cases gk with
    | zero => exact absurd HA.out (by simp [impl_AllComplete.l1])
    | succ k2 =>
     have H := HA.out
     clear HA
     simp only [impl_AllComplete.l1] at H
     by_cases c16 : x21_2 < a0_0
     ·
      rw [if_pos c16] at H
      have c16b0 : decide (x21_2 < a0_0) = true := decide_eq_true c16
      clear c16
      by_cases c17 : 0 ≤ x21_2
      rotate_left
      ·
       rw [if_neg c17] at H
       exact absurd H (by simp)
      rw [if_pos c17] at H
      have c17b0 := eq_true c17
      have c17b1 : decide (0 ≤ x21_2) = true := decide_eq_true c17
      clear c17
      obtain ⟨ji18, hji18⟩ : ∃ j_ : Int, (shr .i64 x15_1 x21_2) = j_ := ⟨_, rfl⟩
      replace H : (if (Go.bits .and .i64 (ji18) 1) = 1 then (if x5_2.length < 17592186044416 then (impl_AllComplete.l1 k2 x3_1 x15_1 (x5_2 ++ [x21_2]) ji5 x15_1 a0_0 (wrap64 (x21_2 + 1)) a0_0 l0_1) else (none)) else (impl_AllComplete.l1 k2 x3_1 x15_1 x5_2 ji5 x15_1 a0_0 (wrap64 (x21_2 + 1)) a0_0 l0_1)) = some r := by first | (rw [hji18] at H; exact H) | (simp only [hji18] at H ⊢; exact H)
      have hji18_ : (x15_1 / 2 ^ min x21_2.toNat 64) = ji18 := hji18
      have hji18z : x21_2 ≤ 64 → (x15_1 / 2 ^ x21_2.toNat) = ji18 := shr_small hji18
      by_cases c19 : (Go.bits .and .i64 (ji18) 1) = 1
      rotate_left
      ·
       rw [if_neg c19] at H
       have c19b0 : ((Go.bits .and .i64 (ji18) 1) == 1) = false := beq_eq_false_iff_ne.mpr c19
       have c19b1 : ((Go.bits .and .i64 (ji18) 1) != 1) = true := bne_iff_ne.mpr c19
       have H' := Aside0.mk H
       clear H
       go_wp2
       go_roundg k2
       case measure => have := HK1.out; have := HK2.out; omega
       case rel => exact ⟨(x5_2), (wrap64 (x21_2 + 1)), mF, H', ⟨by have := HK1.out; have := HK2.out; omega⟩, ⟨mS HO_3.out⟩, ⟨mR HO_5.out⟩, ⟨(mK (BK410.out))⟩, ⟨mG⟩⟩
      rw [if_pos c19] at H
      have c19b0 : ((Go.bits .and .i64 (ji18) 1) == 1) = true := beq_iff_eq.mpr c19
      have c19b1 : ((Go.bits .and .i64 (ji18) 1) != 1) = false := bne_eq_false_iff_eq.mpr c19
      clear c19
      by_cases c20 : x5_2.length < 17592186044416
      rotate_left
      ·
       rw [if_neg c20] at H
       exact absurd H (by simp)
      rw [if_pos c20] at H
      have LMc20 := Aside0.mk c20
      clear c20
      obtain ⟨y419, hy419⟩ : ∃ y_ : List Int, y_ = (x5_2 ++ [x21_2]) := ⟨_, rfl⟩
      replace H : (impl_AllComplete.l1 k2 x3_1 x15_1 y419 ji5 x15_1 a0_0 (wrap64 (x21_2 + 1)) a0_0 l0_1) = some r := by first | (rw [hy419]; with_reducible exact H) | (have H2_ := (Option.bind_some _ _).symm.trans H; rw [hy419]; with_reducible exact H2_) | (have H2_ := (Option.bind_some _ _).symm.trans H; with_reducible exact H2_) | with_reducible exact H | (rw [hy419]; exact H) | exact H
      have Ny419 := Aside0.mk hy419
      clear hy419
      have H' := Aside0.mk H
      clear H
      go_wp2_with (first | ((with_reducible refine gate_builtin (b := .append) (xs := #[.tmp 29, .tmp 31]) rfl ?_); at_builtin; refine Kd.R_append (Kd.int .i64) (w0 := w) w.heap.size rfl (.tmp 29) (.tmp 31) 25 3 (.int .i64 0) 8 rfl Try.underlying25 info3 rfl (by decide) (by omega) u5 x5_2 x21_2 [.int .i64 x21_2] (fun _ => True) (fun _ => False) rfl rfl ?aP (fun _ hk => hk.elim) ?aF ?aO ?aB ?aS ?aL ?_; (case aP => exact rfl); (case aB => exact mG); (case aF => exact (fun _ _ => trivial)); (case aO => exact (mR HO_5.out)); (case aS => exact (below_size mG)); (case aL => have := LMc20.out; omega); intro v420 w21 ho hb hg hat; rw [← Ny419.out] at ho; have n0_ := Aside0.mk (Kd.S_after (ok := (fun _ => True)) (mS (Kd.S_mono HO_3.out (fun _ hk => ⟨trivial, hk⟩))) hg hat); have n1_ := Aside0.mk (blk_grown (g := gb410) (o := .cells #[.int .i64 a0_0, .slice A0_1 l0_1.length c0_1] 28 (0, 0)) ((mK (BK410.out))) hg (Kd.R_ne HO_5.out BK410.out (by decide))); have n2_ := Aside0.mk (hb); have n3_ := Aside0.mk (ho); clear HO_3 BK410 HB HO_5; have HO_3 := n0_; have BK410 := n1_; have HB := n2_; have HO421 := n3_; clear n0_ n1_ n2_ n3_; clear ho hb hg hat))
      go_roundg k2
      case measure => have := HK1.out; have := HK2.out; omega
      case rel => exact ⟨(y419), (wrap64 (x21_2 + 1)), mF, H', ⟨by have := HK1.out; have := HK2.out; omega⟩, ⟨by (with_reducible repeat (first | apply Kd.S_alloc | apply Kd.S_drewN | apply Kd.S_drew)); exact Kd.S_mono HO_3.out (fun _ hk => hk.2)⟩, ⟨mR HO421.out⟩, ⟨(mK (BK410.out))⟩, ⟨mG⟩⟩
     rw [if_neg c16] at H
     have c16b0 : decide (x21_2 < a0_0) = false := decide_eq_false c16
     clear c16
     replace H := Option.bind_eq_some_iff.mp H
     obtain ⟨t422, A220, H⟩ := H
     have A22 := Aside0.mk A220
     clear A220
     by_cases c23 : t422 = true
     rotate_left
     ·
      replace c23 := Bool.eq_false_iff.mpr c23
      subst c23
      rw [if_neg (show ¬ (false = true) by decide)] at H
      have H' := Aside0.mk H
      clear H
      have hcz29_0 : wr.cell? ⟨gb410, 0, none⟩ = some (.int .i64 a0_0) := (blk_cell BK410.out 0).trans rfl
      have hcz29_1 : wr.cell? ⟨gb410, 1, none⟩ = some (.slice A0_1 l0_1.length c0_1) := (blk_cell BK410.out 1).trans rfl
      have hfz29_0 := blk_frozen BK410.out 0
      have hfz29_1 := blk_frozen BK410.out 1
      obtain ⟨Ao30, co30, eo30⟩ := Kd.R_slice HO_5.out
      subst eo30
      go_wp2_with (first | ((with_reducible refine gate_callee (f := 43) rfl ?_); refine goesL_ (some 36) rfl rfl Try.func43 (by kernel_rfl) rfl #[.agg #[.int .i64 a0_0, .slice A0_1 l0_1.length c0_1], .slice Ao30 x5_2.length co30] rfl mA ?_; (with_reducible refine (impl_IsComplete.calls k2 a0_0 _ _ l0_1 _ _ x5_2 false _ ?side1 ?side2 ?side3 ?side4 A22.out).mono ?_); (case side1 => exact mC (Kd.C_below HR0_1.out HB.out)); (case side2 => exact HC0_1.out); (case side3 => exact mC (Kd.R_reads' HO_5.out).2.2); (case side4 => exact (Kd.R_reads' HO_5.out).2.1); rintro e w31 ⟨rfl, hb⟩; refine ⟨_, rfl, ?_⟩; have n0_ := Aside0.mk (Kd.S_below (mS HO_3.out) hb); have n1_ := Aside0.mk (Kd.R_below (mR HO_5.out) hb); have n2_ := Aside0.mk (blk_below (g := gb410) (o := .cells #[.int .i64 a0_0, .slice A0_1 l0_1.length c0_1] 28 (0, 0)) ((mK (BK410.out))) hb); have n3_ := Aside0.mk (below_step mG hb); clear HO_3 HO_5 BK410 HB; have HO_3 := n0_; have HO_5 := n1_; have BK410 := n2_; have HB := n3_; clear n0_ n1_ n2_ n3_; (try clear hb)))
      go_roundg k2
      case measure => have := HK1.out; have := HK2.out; omega
      case rel => exact ⟨(x3_1), (wrap64 (x15_1 + 1)), mF, H', ⟨by have := HK1.out; have := HK2.out; omega⟩, ⟨by (with_reducible repeat (first | apply Kd.S_alloc | apply Kd.S_drewN | apply Kd.S_drew)); exact Kd.S_mono HO_3.out (fun _ hk => trivial)⟩, ⟨(mK (BK410.out))⟩, ⟨mG⟩⟩
     subst c23
     rw [if_pos rfl] at H
     by_cases c24 : x3_1.length < 5864062014805
     rotate_left
     ·
      rw [if_neg c24] at H
      exact absurd H (by simp)
     rw [if_pos c24] at H
     have LMc24 := Aside0.mk c24
     clear c24
     obtain ⟨y423, hy423⟩ : ∃ y_ : List (List Int), y_ = (x3_1 ++ [x5_2]) := ⟨_, rfl⟩
     replace H : (impl_AllComplete.l0 k2 y423 ji5 (wrap64 (x15_1 + 1)) a0_0 l0_1) = some r := by first | (rw [hy423]; with_reducible exact H) | (have H2_ := (Option.bind_some _ _).symm.trans H; rw [hy423]; with_reducible exact H2_) | (have H2_ := (Option.bind_some _ _).symm.trans H; with_reducible exact H2_) | with_reducible exact H | (rw [hy423]; exact H) | exact H
     have Ny423 := Aside0.mk hy423
     clear hy423
     have H' := Aside0.mk H
     clear H
     have hcz25_0 : wr.cell? ⟨gb410, 0, none⟩ = some (.int .i64 a0_0) := (blk_cell BK410.out 0).trans rfl
     have hcz25_1 : wr.cell? ⟨gb410, 1, none⟩ = some (.slice A0_1 l0_1.length c0_1) := (blk_cell BK410.out 1).trans rfl
     have hfz25_0 := blk_frozen BK410.out 0
     have hfz25_1 := blk_frozen BK410.out 1
     obtain ⟨Ao26, co26, eo26⟩ := Kd.R_slice HO_5.out
     subst eo26
     go_wp2_with (first | ((with_reducible refine gate_callee (f := 43) rfl ?_); refine goesL_ (some 36) rfl rfl Try.func43 (by kernel_rfl) rfl #[.agg #[.int .i64 a0_0, .slice A0_1 l0_1.length c0_1], .slice Ao26 x5_2.length co26] rfl mA ?_; (with_reducible refine (impl_IsComplete.calls k2 a0_0 _ _ l0_1 _ _ x5_2 true _ ?side1 ?side2 ?side3 ?side4 A22.out).mono ?_); (case side1 => exact mC (Kd.C_below HR0_1.out HB.out)); (case side2 => exact HC0_1.out); (case side3 => exact mC (Kd.R_reads' HO_5.out).2.2); (case side4 => exact (Kd.R_reads' HO_5.out).2.1); rintro e w27 ⟨rfl, hb⟩; refine ⟨_, rfl, ?_⟩; have n0_ := Aside0.mk (Kd.S_below (mS HO_3.out) hb); have n1_ := Aside0.mk (Kd.R_below (mR HO_5.out) hb); have n2_ := Aside0.mk (blk_below (g := gb410) (o := .cells #[.int .i64 a0_0, .slice A0_1 l0_1.length c0_1] 28 (0, 0)) ((mK (BK410.out))) hb); have n3_ := Aside0.mk (below_step mG hb); clear HO_3 HO_5 BK410 HB; have HO_3 := n0_; have HO_5 := n1_; have BK410 := n2_; have HB := n3_; clear n0_ n1_ n2_ n3_; (try clear hb)) | ((with_reducible refine gate_builtin (b := .append) (xs := #[.tmp 37, .tmp 39]) rfl ?_); at_builtin; refine Kd.S_append (Kd.slice 3 (Kd.int .i64)) (w0 := w) w.heap.size rfl (.tmp 37) (.tmp 39) 22 25 (.slice none 0 0) 24 rfl Try.underlying22 info25 rfl (by decide) (by omega) u3 x3_1 x5_2 [.slice Ao26 x5_2.length co26] (fun _ => True) (fun k_ => some k_ = (.slice Ao26 x5_2.length co26 : Value).ownBlock) rfl rfl ?aP (fun k_ hk_ => ((Kd.R_mono (ok' := fun k_ => ((fun _ => True)) k_ ∧ some k_ ≠ (u3 : Value).ownBlock) (Kd.R_apart' (HO_5.out) (Kd.S_typed HO_3.out) (by decide)) (fun k_ hk => ⟨trivial, hk.2⟩))).1 k_ hk_.symm) ?aF ?aO ?aB ?aS ?aL ?_; (case aP => exact Kd.M_row (Kd.R_mono (Kd.R_tight rfl (Kd.R_mono (ok' := fun k_ => ((fun _ => True)) k_ ∧ some k_ ≠ (u3 : Value).ownBlock) (Kd.R_apart' (HO_5.out) (Kd.S_typed HO_3.out) (by decide)) (fun k_ hk => ⟨trivial, hk.2⟩))) (fun _ h_ => h_))); (case aB => exact mG); (case aF => exact (fun _ _ => trivial)); (case aO => exact (mS (Kd.S_mono HO_3.out (fun k_ hk => ⟨trivial, fun e_ => hk e_⟩)))); (case aS => exact (below_size mG)); (case aL => have := LMc24.out; omega); intro v424 w28 ho hb hg hat; rw [← Ny423.out] at ho; have n0_ := Aside0.mk (blk_grown (g := gb410) (o := .cells #[.int .i64 a0_0, .slice A0_1 l0_1.length c0_1] 28 (0, 0)) ((mK (BK410.out))) hg (Kd.S_ne HO_3.out BK410.out (by decide))); have n1_ := Aside0.mk (hb); have n2_ := Aside0.mk (ho); clear BK410 HB HO_3 HO_5; have BK410 := n0_; have HB := n1_; have HO425 := n2_; clear n0_ n1_ n2_; clear ho hb hg hat))
     go_roundg k2
     case measure => have := HK1.out; have := HK2.out; omega
     case rel => exact ⟨(y423), (wrap64 (x15_1 + 1)), mF, H', ⟨by have := HK1.out; have := HK2.out; omega⟩, ⟨mS HO425.out⟩, ⟨(mK (BK410.out))⟩, ⟨mG⟩⟩

/-! ### impl_StableSets: function 77 -/
def impl_StableSets.l0 : Nat → List (List Int) → List (List Int) → Int → Int → Int → List (List Int) → Option ((List (List Int)))
 | 0, _, _, _, _, _, _ => none
 | k + 1, x3, x8, x9, x10, x0, x1 => if x10 < x9 then (if 0 ≤ x10 then (if x10 < (x8.length : Int) then ((impl_IsStable.f k x0 x1 (rd_L1 x8 x10)).bind fun t434 => (if t434 = true then (if x3.length < 5864062014805 then (impl_StableSets.l0 k (x3 ++ [rd_L1 x8 x10]) x8 x9 (wrap64 (x10 + 1)) x0 x1) else (none)) else (impl_StableSets.l0 k x3 x8 x9 (wrap64 (x10 + 1)) x0 x1))) else (none)) else (none)) else (some x3)
def impl_StableSets.f (k : Nat) (a0_0 : Int) (l0_1 : List (List Int)) : Option ((List (List Int))) := (impl_AllComplete.f k a0_0 l0_1).bind fun t430 => (impl_StableSets.l0 k (([] : List (List Int))) t430 (t430.length : Int) 0 a0_0 l0_1)
theorem impl_StableSets.rdg (l : List (List Int)) (x : Int) (h0 : 0 ≤ x) (h1 : x < l.length) : rd_L1 l x = l.getD x.toNat [] := by
 unfold rd_L1
 rfl
set_option maxHeartbeats 8000000 in
set_option maxRecDepth 100000 in
theorem impl_StableSets.calls (k : Nat) (a0_0 : Int) (A0_1 : Option Addr) (c0_1 : Nat) (l0_1 : List (List Int)) (r : List (List Int)) (w : World) (hr0_1 : Kd.C (Kd.slice 3 (Kd.int .i64)) w A0_1 l0_1.length l0_1) (hc0_1 : l0_1.length ≤ c0_1) (h : impl_StableSets.f k a0_0 l0_1 = some r) :
  Calls Try.prog 77 #[.agg #[.int .i64 a0_0, .slice A0_1 l0_1.length c0_1]] w fun e w' => ∃ v0_ : Value, e = .returned (v0_) ∧ Kd.S (Kd.slice 3 (Kd.int .i64)) 25 w' w.heap.size (fun _ => True) v0_ r ∧ Below w.heap.size w w' := by
 have hu28 := Try.underlying28
 have HR0_1 := Aside0.mk hr0_1
 have HC0_1 := Aside0.mk hc0_1
 clear hr0_1 hc0_1
 have HB := Aside0.mk (Below.refl w.heap.size w)
 obtain ⟨t430, A20, H⟩ := Option.bind_eq_some_iff.mp (show ((impl_AllComplete.f k a0_0 l0_1).bind fun t430 => (impl_StableSets.l0 k (([] : List (List Int))) t430 (t430.length : Int) 0 a0_0 l0_1)) = some r from h)
 have A2 := Aside0.mk A20
 have H' := Aside0.mk H
 clear A20 H h
 go_enter Try.func77, Try.ntmps77
 go_wp2_with (first
  | ((with_reducible refine gate_dst (N := 1) rfl ?_); refine box_event ?hg (N := 1) ?hd (cs := #[.int .i64 a0_0, .slice A0_1 l0_1.length c0_1]) (t := 28) ?hr ?_; (case hd => rfl); (case hg => rfl); (case hr => first | (go_simp; done) | (go_simp; rfl)); intro gb426 hg w3 hbox hb; have n0_ := Aside0.mk (below_step (mB HB.out) hb); have n1_ := Aside0.mk (hbox); have n2_ := Aside0.mk ((by rw [hg]; exact (below_size (mB HB.out)) : w.heap.size ≤ gb426)); clear HB; have HB := n0_; have BK426 := n1_; have GE426 := n2_; clear n0_ n1_ n2_; clear hb hbox hg)
  | ((with_reducible refine gate_dst (N := 6) rfl ?_); refine Kd.R_lit (Kd.raw 1) _ 25 ?hg (N := 6) ?hd (xs := ([] : List (List Value))) (inner := []) (ok := fun _ => True) (okp := fun _ => True) ?hr ?hp (fun _ hk => hk) trivial (Below.refl _ _) (Nat.le_refl _) (by simp) ?_; (case hd => rfl); (case hg => rfl); (case hr => first | (go_simp; done) | (go_simp; rfl)); (case hp => exact (Reps.none _ _)); intro v428 w4 ho5 hb hg_ hnew_; clear hg_ hnew_; have n0_ := Aside0.mk (Kd.R_lower ho5 (below_size (mB HB.out))); have n1_ := Aside0.mk (blk_below (mK BK426.out) hb); have n2_ := Aside0.mk (below_step (mB HB.out) hb); clear BK426 HB; have HO429 := n0_; have BK426 := n1_; have HB := n2_; clear n0_ n1_ n2_; clear hb ho5; have hcz6_0 : w4.cell? ⟨gb426, 0, none⟩ = some (.int .i64 a0_0) := (blk_cell BK426.out 0).trans rfl; have hcz6_1 : w4.cell? ⟨gb426, 1, none⟩ = some (.slice A0_1 l0_1.length c0_1) := (blk_cell BK426.out 1).trans rfl; have hfz6_0 := blk_frozen BK426.out 0; have hfz6_1 := blk_frozen BK426.out 1)
  | ((with_reducible refine gate_callee (f := 70) rfl ?_); refine goesL_ (some 8) rfl rfl Try.func70 (by kernel_rfl) rfl #[.agg #[.int .i64 a0_0, .slice A0_1 l0_1.length c0_1]] rfl mA ?_; (with_reducible refine (impl_AllComplete.calls k a0_0 _ _ l0_1 t430 _ ?side1 ?side2 A2.out).mono ?_); (case side1 => exact mC (Kd.C_below HR0_1.out HB.out)); (case side2 => exact HC0_1.out); rintro e w7 ⟨v431, rfl, ho0, hb⟩; refine ⟨_, rfl, ?_⟩; obtain ⟨n0, inner, P0, _, hcell, hfin⟩ := Go.Proofs.YtelkfhlnejlheaaW.Pick.Pk.start rfl (mB HB.out) (mK BK426.out) GE426.out (mR HO429.out) ho0 hb []; have P := Aside0.mk P0; have HCELL := Aside0.mk hcell; have HFIN := Aside0.mk hfin; obtain ⟨Ao8, co8, eo8⟩ := Kd.S_slice ho0; clear ho0 hb P0 hcell hfin HB BK426 HO429; subst eo8))
 go_loopg [3, 10] k (fun kq v3 v10 w' => ∃ (s : List Nat) (x10_1 : Int), v10 = .int .i64 x10_1 ∧ Aside0 (impl_StableSets.l0 kq (s.map fun i => t430.getD i []) t430 (t430.length : Int) x10_1 a0_0 l0_1 = some r) ∧ Aside0 (kq ≤ k) ∧ Aside0 (∀ i ∈ s, (i : Int) < x10_1) ∧ Aside0 (Go.Proofs.YtelkfhlnejlheaaW.Pick.Pk (Kd.slice 3 (Kd.int .i64)) 25 w w7 n0 gb426 #[.int .i64 a0_0, .slice A0_1 l0_1.length c0_1] 28 (.slice Ao8 t430.length co8) t430 inner v3 s w'))
 case atStart => exact ⟨[], (0), mF, H', ⟨Nat.le_refl _⟩, ⟨fun i hi => by cases hi⟩, ⟨Go.Proofs.YtelkfhlnejlheaaW.Pick.Pk.below P.out Mv.out⟩⟩
 case round =>
  clear H' P
  (try clear hcz6_0); (try clear hcz6_1); (try clear hfz6_0); (try clear hfz6_1)
  obtain ⟨s, x10_1, rfl, HA, HK1, HS, P⟩ := hrel
  cases gk with
  | zero => exact absurd HA.out (by simp [impl_StableSets.l0])
  | succ k1 =>
  have H := HA.out
  clear HA
  simp only [impl_StableSets.l0] at H
  by_cases c9 : x10_1 < (t430.length : Int)
  case neg =>
   rw [if_neg c9] at H
   have c9b0 : decide (x10_1 < (t430.length : Int)) = false := decide_eq_false c9
   clear c9
   obtain rfl := Option.some.inj H
   go_wp2
   go_ret
   exact ⟨_, by first | rfl | (simp [*] <;> rfl), HFIN.out _ _ _ (Go.Proofs.YtelkfhlnejlheaaW.Pick.Pk.below P.out Mv.out), mB P.out.B⟩
  rw [if_pos c9] at H
  have c9b0 : decide (x10_1 < (t430.length : Int)) = true := decide_eq_true c9
  by_cases c10 : 0 ≤ x10_1
  case neg => rw [if_neg c10] at H; exact absurd H (by simp)
  rw [if_pos c10, if_pos c9] at H
  have c10b0 : decide (0 ≤ x10_1) = true := decide_eq_true c10
  have hmax : x10_1 < 9223372036854775807 := by have := (Kd.S_reads' P.out.S).2.2.2.1; omega
  have hw1 : wrap64 (x10_1 + 1) = x10_1 + 1 := by unfold wrap64; omega
  have HW1 := Aside0.mk hw1
  have HX0 := Aside0.mk c10
  have HX1 := Aside0.mk c9
  clear c9 c10 hmax hw1
  obtain ⟨t434, A120, H⟩ := Option.bind_eq_some_iff.mp H
  have A12 := Aside0.mk A120
  clear A120
  by_cases c13 : t434 = true
  case neg =>
   replace c13 := Bool.eq_false_iff.mpr c13
   subst c13
   rw [if_neg (show ¬ (false = true) by decide)] at H
   have H' := Aside0.mk H
   clear H
   have p433 : 0 ≤ (x10_1 : Int) := mD
   have q433 : x10_1 < (t430.length : Int) := mD
   obtain ⟨ad433, A433_0, c433_0, e433, hx433_0, hl433_0, hi433_0⟩ := at_L1 (Kd.S_reads' P.out.S).2.2 x10_1 p433 q433
   cases e433
   have HR433_0 := Aside0.mk hi433_0
   have HC433_0 := Aside0.mk hl433_0
   clear hi433_0 hl433_0
   replace p433 := eq_true p433
   replace q433 := eq_true q433
   have hcz15_0 : wr.cell? ⟨gb426, 0, none⟩ = some (.int .i64 a0_0) := (blk_cell P.out.b1 0).trans rfl
   have hcz15_1 : wr.cell? ⟨gb426, 1, none⟩ = some (.slice A0_1 l0_1.length c0_1) := (blk_cell P.out.b1 1).trans rfl
   have hfz15_0 := blk_frozen P.out.b1 0
   have hfz15_1 := blk_frozen P.out.b1 1
   go_wp2_with (first | ((with_reducible refine gate_callee (f := 33) rfl ?_); refine goesL_ (some 16) rfl rfl Try.func33 (by kernel_rfl) rfl #[.agg #[.int .i64 a0_0, .slice A0_1 l0_1.length c0_1], .slice A433_0 (rd_L1 t430 x10_1).length c433_0] rfl mA ?_; (with_reducible refine (impl_IsStable.calls k1 a0_0 _ _ l0_1 _ _ (rd_L1 t430 x10_1) false _ ?side1 ?side2 ?side3 ?side4 A12.out).mono ?_); (case side1 => exact mC (Kd.C_below HR0_1.out P.out.B)); (case side2 => exact HC0_1.out); (case side3 => exact (mC HR433_0.out)); (case side4 => exact HC433_0.out); rintro e w16 ⟨rfl, hb⟩; refine ⟨_, rfl, ?_⟩; have P0 := Aside0.mk (Go.Proofs.YtelkfhlnejlheaaW.Pick.Pk.below (Go.Proofs.YtelkfhlnejlheaaW.Pick.Pk.below P.out Mv.out) hb); have n4_ := Aside0.mk (Kd.C_below (mC HR433_0.out) hb); clear P HR433_0; have P := P0; have HR433_0 := n4_; clear P0 n4_ hb))
   go_roundg k1
   case measure => have := HK1.out; omega
   case rel => exact ⟨s, (wrap64 (x10_1 + 1)), mF, H', ⟨by have := HK1.out; omega⟩, ⟨fun i hi => by have := HS.out i hi; have := HW1.out; omega⟩, ⟨Go.Proofs.YtelkfhlnejlheaaW.Pick.Pk.below P.out Mv.out⟩⟩
  subst c13
  rw [if_pos rfl] at H
  by_cases c14 : (s.map fun i => t430.getD i []).length < 5864062014805
  case neg => rw [if_neg c14] at H; exact absurd H (by simp)
  rw [if_pos c14] at H
  have LMc14 := Aside0.mk (show s.length < 5864062014805 by rwa [List.length_map] at c14)
  clear c14
  have H' := Aside0.mk H
  clear H
  have p433 : 0 ≤ (x10_1 : Int) := mD
  have q433 : x10_1 < (t430.length : Int) := mD
  obtain ⟨ad433, A433_0, c433_0, e433, hx433_0, hl433_0, hi433_0⟩ := at_L1 (Kd.S_reads' P.out.S).2.2 x10_1 p433 q433
  cases e433
  have HR433_0 := Aside0.mk hi433_0
  have HC433_0 := Aside0.mk hl433_0
  clear hi433_0 hl433_0
  have heq_ : inner.getD x10_1.toNat (.slice none 0 0) = .slice A433_0 (rd_L1 t430 x10_1).length c433_0 := by
   obtain ⟨h1_, h2_, h3_⟩ := HCELL.out ad433 _ _ x10_1.toNat rfl (by have := HX0.out; have := HX1.out; omega)
   have h4_ : wr.cell? (ad433.add x10_1.toNat) = w7.cell? (ad433.add x10_1.toNat) := by
    simp only [World.cell?, add_block]
    rw [P.out.K _ h2_ h3_]
   rw [h4_, h1_] at hx433_0
   exact Option.some.inj hx433_0
  have HEQ := Aside0.mk heq_
  clear heq_
  replace p433 := eq_true p433
  replace q433 := eq_true q433
  have hcz15_0 : wr.cell? ⟨gb426, 0, none⟩ = some (.int .i64 a0_0) := (blk_cell P.out.b1 0).trans rfl
  have hcz15_1 : wr.cell? ⟨gb426, 1, none⟩ = some (.slice A0_1 l0_1.length c0_1) := (blk_cell P.out.b1 1).trans rfl
  have hfz15_0 := blk_frozen P.out.b1 0
  have hfz15_1 := blk_frozen P.out.b1 1
  go_wp2_with (first | ((with_reducible refine gate_callee (f := 33) rfl ?_); refine goesL_ (some 16) rfl rfl Try.func33 (by kernel_rfl) rfl #[.agg #[.int .i64 a0_0, .slice A0_1 l0_1.length c0_1], .slice A433_0 (rd_L1 t430 x10_1).length c433_0] rfl mA ?_; (with_reducible refine (impl_IsStable.calls k1 a0_0 _ _ l0_1 _ _ (rd_L1 t430 x10_1) true _ ?side1 ?side2 ?side3 ?side4 A12.out).mono ?_); (case side1 => exact mC (Kd.C_below HR0_1.out P.out.B)); (case side2 => exact HC0_1.out); (case side3 => exact (mC HR433_0.out)); (case side4 => exact HC433_0.out); rintro e w16 ⟨rfl, hb⟩; refine ⟨_, rfl, ?_⟩; have P0 := Aside0.mk (Go.Proofs.YtelkfhlnejlheaaW.Pick.Pk.below (Go.Proofs.YtelkfhlnejlheaaW.Pick.Pk.below P.out Mv.out) hb); have n4_ := Aside0.mk (Kd.C_below (mC HR433_0.out) hb); clear P HR433_0; have P := P0; have HR433_0 := n4_; clear P0 n4_ hb) | ((with_reducible refine gate_builtin (b := .append) (xs := #[.tmp 17, .tmp 19]) rfl ?_); at_builtin; refine Kd.R_append (Kd.raw 1) (w0 := w) w.heap.size rfl (.tmp 17) (.tmp 19) 22 25 (.slice none 0 0) 24 rfl Try.underlying22 info25 rfl (by decide) (by omega) u3 (s.map fun i => [inner.getD i (.slice none 0 0)]) [.slice A433_0 (rd_L1 t430 x10_1).length c433_0] [.slice A433_0 (rd_L1 t430 x10_1).length c433_0] (fun _ => True) (fun _ => False) rfl rfl ?aP (fun _ hk => hk.elim) ?aF ?aO ?aB ?aS ?aL ?_; (case aP => exact ⟨rfl, rfl, fun u hu => by rw [List.mem_singleton.1 hu]; rfl⟩); (case aB => exact mB P.out.B); (case aF => exact (fun _ _ => trivial)); (case aO => exact (mR P.out.O)); (case aS => exact (below_size (mB P.out.B))); (case aL => have := LMc14.out; rw [List.length_map]; omega); intro v436 w17 ho hb hg hat; have P0 := Aside0.mk (Go.Proofs.YtelkfhlnejlheaaW.Pick.Pk.snoc (Go.Proofs.YtelkfhlnejlheaaW.Pick.Pk.below P.out Mv.out) (i := x10_1.toNat) (by decide) (by have := HX0.out; have := HX1.out; omega) (fun hi => by have := HS.out _ hi; have := HX0.out; omega) (by rw [HEQ.out]; exact ho) hb hg hat); clear P; have P := P0; clear P0 ho hb hg hat))
  go_roundg k1
  case measure => have := HK1.out; omega
  case rel => exact ⟨s ++ [x10_1.toNat], (wrap64 (x10_1 + 1)), mF, ⟨by rw [List.map_append, List.map_singleton, ← impl_StableSets.rdg _ _ HX0.out HX1.out]; exact H'.out⟩, ⟨by have := HK1.out; omega⟩, ⟨fun i hi => by rcases List.mem_append.1 hi with hi | hi; exact (by have := HS.out i hi; have := HW1.out; omega); exact (by rw [List.mem_singleton.1 hi]; have := HW1.out; have := HX0.out; omega)⟩, ⟨Go.Proofs.YtelkfhlnejlheaaW.Pick.Pk.below P.out Mv.out⟩⟩


/-! ### laws_FnExactStableSets: function 19: the way on which it answers true -/
def laws_FnExactStableSets.f (k : Nat) (a0_0 : Int) (l0_1 : List (List Int)) : Option Bool := (laws_szGraph.f k a0_0 l0_1 1048576).bind fun t0 => if t0 < 0 then some true else (laws_toGraph.f k a0_0 l0_1).bind fun g => (spec_StableSets.f k g.1 g.2).bind fun lW => (impl_StableSets.f k g.1 g.2).bind fun lG => (laws_eqIntSS.f k lG lW).bind fun b1 => (laws_eqGraph.f k g.1 g.2 g.1 g.2).bind fun b2 => (laws_markGraph.f k g.1 g.2 1).bind fun m0 => (laws_markIntSS.f k lG 1).bind fun mg => (laws_heldIntSS.f k mg.2 1).bind fun q => if b1 = true ∧ b2 = true ∧ ¬ m0 < 0 ∧ ¬ q < 0 ∧ q = mg.1 then some true else none
set_option maxHeartbeats 16000000 in
set_option maxRecDepth 100000 in
theorem laws_FnExactStableSets.calls (k : Nat) (a0_0 : Int) (A0_1 : Option Addr) (c0_1 : Nat) (l0_1 : List (List Int)) (r : Bool) (w : World) (hr0_1 : Kd.C (Kd.slice 3 (Kd.int .i64)) w A0_1 l0_1.length l0_1) (hc0_1 : l0_1.length ≤ c0_1) (h : laws_FnExactStableSets.f k a0_0 l0_1 = some r) :
  Calls Try.prog 19 #[.agg #[.int .i64 a0_0, .slice A0_1 l0_1.length c0_1]] w fun e w' => e = .returned (.bool r) ∧ Below w.heap.size w w' := by
 have hu24 := Try.underlying24
 have hu28 := Try.underlying28
 have HR0_1 := Aside0.mk hr0_1
 have HC0_1 := Aside0.mk hc0_1
 clear hr0_1 hc0_1
 obtain ⟨t0, A00, H⟩ := Option.bind_eq_some_iff.mp (show (laws_szGraph.f k a0_0 l0_1 1048576).bind _ = some r from h)
 have A0 := Aside0.mk A00
 clear A00 h
 by_cases c0 : t0 < 0
 ·
  rw [if_pos c0] at H
  obtain rfl := Option.some.inj H
  have c0b : decide (t0 < 0) = true := decide_eq_true c0
  clear c0 H
  go_enter Try.func19, Try.ntmps19
  go_wp2_with (first
  | ((with_reducible refine gate_dst (N := 1) rfl ?_); refine box_event ?hg (N := 1) ?hd (cs := #[.int .i64 a0_0, .slice A0_1 l0_1.length c0_1]) (t := 24) ?hr ?_; (case hd => rfl); (case hg => rfl); (case hr => first | (go_simp; done) | (go_simp; rfl)); intro gb1 hg w1 hbox hb; have F := Aside0.mk (Go.Proofs.YtelkfhlnejlheaaW.Pick.Fs.start (Kd.slice 3 (Kd.int .i64)) 25 hb hbox (by rw [hg]; exact Nat.le_refl _)); clear hb hbox hg; have hcz1a_0 : w1.cell? ⟨gb1, 0, none⟩ = some (.int .i64 a0_0) := (blk_cell F.out.b1 0).trans rfl; have hcz1a_1 : w1.cell? ⟨gb1, 1, none⟩ = some (.slice A0_1 l0_1.length c0_1) := (blk_cell F.out.b1 1).trans rfl; have hfz1a_0 := blk_frozen F.out.b1 0; have hfz1a_1 := blk_frozen F.out.b1 1)
  | ((with_reducible refine gate_callee (f := 20) rfl ?_); refine goesL_ (some 13) rfl rfl Try.func20 (by kernel_rfl) rfl #[.agg #[.int .i64 a0_0, .slice A0_1 l0_1.length c0_1], .int .i64 1048576] rfl mA ?_; (with_reducible refine (laws_szGraph.calls k a0_0 _ _ l0_1 1048576 t0 _ ?side1 ?side2 A0.out).mono ?_); (case side1 => exact (mC (Kd.C_below HR0_1.out F.out.B))); (case side2 => exact HC0_1.out); rintro e w2 ⟨rfl, hb⟩; refine ⟨_, rfl, ?_⟩; have F0 := Aside0.mk (Go.Proofs.YtelkfhlnejlheaaW.Pick.Fs.below (Go.Proofs.YtelkfhlnejlheaaW.Pick.Fs.below F.out Mv.out) hb); clear F; have F := F0; clear F0 hb; have hcz2a_0 : w2.cell? ⟨gb1, 0, none⟩ = some (.int .i64 a0_0) := (blk_cell F.out.b1 0).trans rfl; have hcz2a_1 : w2.cell? ⟨gb1, 1, none⟩ = some (.slice A0_1 l0_1.length c0_1) := (blk_cell F.out.b1 1).trans rfl; have hfz2a_0 := blk_frozen F.out.b1 0; have hfz2a_1 := blk_frozen F.out.b1 1))
  go_ret
  exact ⟨rfl, (Go.Proofs.YtelkfhlnejlheaaW.Pick.Fs.below F.out Mv.out).B⟩
 rw [if_neg c0] at H
 have c0b : decide (t0 < 0) = false := decide_eq_false c0
 clear c0
 obtain ⟨⟨xN, xl⟩, A10, H⟩ := Option.bind_eq_some_iff.mp H
 obtain ⟨lW, A20, H⟩ := Option.bind_eq_some_iff.mp H
 obtain ⟨lG, A30, H⟩ := Option.bind_eq_some_iff.mp H
 obtain ⟨b1, A40, H⟩ := Option.bind_eq_some_iff.mp H
 obtain ⟨b2, A50, H⟩ := Option.bind_eq_some_iff.mp H
 obtain ⟨m0, A60, H⟩ := Option.bind_eq_some_iff.mp H
 obtain ⟨⟨mg, lM⟩, A70, H⟩ := Option.bind_eq_some_iff.mp H
 obtain ⟨q, A80, H⟩ := Option.bind_eq_some_iff.mp H
 by_cases cc : b1 = true ∧ b2 = true ∧ ¬ m0 < 0 ∧ ¬ q < 0 ∧ q = mg
 case neg => rw [if_neg cc] at H; cases H
 rw [if_pos cc] at H
 obtain rfl := Option.some.inj H
 obtain ⟨rfl, rfl, c1, c2, rfl⟩ := cc
 have c1b : decide (m0 < 0) = false := decide_eq_false c1
 have c2b : decide (q < 0) = false := decide_eq_false c2
 have A1 := Aside0.mk A10
 have A2 := Aside0.mk A20
 have A3 := Aside0.mk A30
 have A4 := Aside0.mk A40
 have A5 := Aside0.mk A50
 have A6 := Aside0.mk A60
 have A7 := Aside0.mk A70
 have A8 := Aside0.mk A80
 clear A10 A20 A30 A40 A50 A60 A70 A80 H c1 c2
 try dsimp only at A2 A3 A5 A6 A8
 go_enter Try.func19, Try.ntmps19
 try go_wp2_with (first
 | ((with_reducible refine gate_dst (N := 1) rfl ?_); refine box_event ?hg (N := 1) ?hd (cs := #[.int .i64 a0_0, .slice A0_1 l0_1.length c0_1]) (t := 24) ?hr ?_; (case hd => rfl); (case hg => rfl); (case hr => first | (go_simp; done) | (go_simp; rfl)); intro gb1 hg w1 hbox hb; have F := Aside0.mk (Go.Proofs.YtelkfhlnejlheaaW.Pick.Fs.start (Kd.slice 3 (Kd.int .i64)) 25 hb hbox (by rw [hg]; exact Nat.le_refl _)); clear hb hbox hg; have hcz1a_0 : w1.cell? ⟨gb1, 0, none⟩ = some (.int .i64 a0_0) := (blk_cell F.out.b1 0).trans rfl; have hcz1a_1 : w1.cell? ⟨gb1, 1, none⟩ = some (.slice A0_1 l0_1.length c0_1) := (blk_cell F.out.b1 1).trans rfl; have hfz1a_0 := blk_frozen F.out.b1 0; have hfz1a_1 := blk_frozen F.out.b1 1)
 | ((with_reducible refine gate_callee (f := 20) rfl ?_); refine goesL_ (some 13) rfl rfl Try.func20 (by kernel_rfl) rfl #[.agg #[.int .i64 a0_0, .slice A0_1 l0_1.length c0_1], .int .i64 1048576] rfl mA ?_; (with_reducible refine (laws_szGraph.calls k a0_0 _ _ l0_1 1048576 t0 _ ?side1 ?side2 A0.out).mono ?_); (case side1 => exact (mC (Kd.C_below HR0_1.out F.out.B))); (case side2 => exact HC0_1.out); rintro e w2 ⟨rfl, hb⟩; refine ⟨_, rfl, ?_⟩; have F0 := Aside0.mk (Go.Proofs.YtelkfhlnejlheaaW.Pick.Fs.below (Go.Proofs.YtelkfhlnejlheaaW.Pick.Fs.below F.out Mv.out) hb); clear F; have F := F0; clear F0 hb; have hcz2a_0 : w2.cell? ⟨gb1, 0, none⟩ = some (.int .i64 a0_0) := (blk_cell F.out.b1 0).trans rfl; have hcz2a_1 : w2.cell? ⟨gb1, 1, none⟩ = some (.slice A0_1 l0_1.length c0_1) := (blk_cell F.out.b1 1).trans rfl; have hfz2a_0 := blk_frozen F.out.b1 0; have hfz2a_1 := blk_frozen F.out.b1 1)
 | ((with_reducible refine gate_callee (f := 22) rfl ?_); refine goesL_ (some 17) rfl rfl Try.func22 (by kernel_rfl) rfl #[.agg #[.int .i64 a0_0, .slice A0_1 l0_1.length c0_1]] rfl mA ?_; (with_reducible refine (laws_toGraph.calls k a0_0 _ _ l0_1 xN xl _ ?side1 ?side2 A1.out).mono ?_); (case side1 => exact (mC (Kd.C_below HR0_1.out F.out.B))); (case side2 => exact HC0_1.out); rintro e w3 ⟨vt, rfl, ho0, hb⟩; refine ⟨_, rfl, ?_⟩; obtain ⟨At, ct, et_⟩ := Kd.S_slice ho0; subst et_; have HT := Aside0.mk ho0; have F0 := Aside0.mk (Go.Proofs.YtelkfhlnejlheaaW.Pick.Fs.below (Go.Proofs.YtelkfhlnejlheaaW.Pick.Fs.below F.out Mv.out) hb); clear F; have F := F0; clear F0; clear hb ho0)
 | ((with_reducible refine gate_callee (f := 76) rfl ?_); refine goesL_ (some 18) rfl rfl Try.func76 (by kernel_rfl) rfl #[.agg #[.int .i64 xN, .slice At xl.length ct]] rfl mA ?_; (with_reducible refine (spec_StableSets.calls k xN _ _ xl lW _ ?side1 ?side2 A2.out).mono ?_); (case side1 => exact (Kd.S_reads' (mS HT.out)).2.2); (case side2 => exact (Kd.S_reads' HT.out).2.1); rintro e w4 ⟨vw, rfl, ho0, hb⟩; refine ⟨_, rfl, ?_⟩; obtain ⟨okW, F0⟩ := Go.Proofs.YtelkfhlnejlheaaW.Pick.Fs.newW (Go.Proofs.YtelkfhlnejlheaaW.Pick.Fs.below F.out Mv.out) (Kd.N_V ho0) hb; clear F; have F := Aside0.mk F0; clear F0; clear HT hb ho0; obtain ⟨Aw, cw, ew_⟩ := Kd.V_slice F.out.fW; subst ew_; have hcz3a_0 : w4.cell? ⟨gb1, 0, none⟩ = some (.int .i64 a0_0) := (blk_cell F.out.b1 0).trans rfl; have hcz3a_1 : w4.cell? ⟨gb1, 1, none⟩ = some (.slice A0_1 l0_1.length c0_1) := (blk_cell F.out.b1 1).trans rfl; have hfz3a_0 := blk_frozen F.out.b1 0; have hfz3a_1 := blk_frozen F.out.b1 1)
 | ((with_reducible refine gate_callee (f := 22) rfl ?_); refine goesL_ (some 20) rfl rfl Try.func22 (by kernel_rfl) rfl #[.agg #[.int .i64 a0_0, .slice A0_1 l0_1.length c0_1]] rfl mA ?_; (with_reducible refine (laws_toGraph.calls k a0_0 _ _ l0_1 xN xl _ ?side1 ?side2 A1.out).mono ?_); (case side1 => exact (mC (Kd.C_below HR0_1.out F.out.B))); (case side2 => exact HC0_1.out); rintro e w5 ⟨vx, rfl, ho0, hb⟩; refine ⟨_, rfl, ?_⟩; obtain ⟨Ax, cx, et_⟩ := Kd.S_slice ho0; subst et_; obtain ⟨okX, F0⟩ := Go.Proofs.YtelkfhlnejlheaaW.Pick.Fs.newX (Go.Proofs.YtelkfhlnejlheaaW.Pick.Fs.below F.out Mv.out) ho0 hb; clear F; have F := Aside0.mk F0; clear F0; clear hb ho0)
 | ((with_reducible refine gate_dst (N := 5) rfl ?_); refine box_event ?hg (N := 5) ?hd (cs := #[.int .i64 0, .slice none 0 0]) (t := 28) ?hr ?_; (case hd => rfl); (case hg => rfl); (case hr => first | (go_simp; done) | (go_simp; rfl)); intro gb2 hg w6 hbox hb; obtain ⟨F0, hne⟩ := Go.Proofs.YtelkfhlnejlheaaW.Pick.Fs.box F.out hg hbox hb; clear F; have F := Aside0.mk F0; have HNE := Aside0.mk hne; clear F0 hb hbox hg; have hnb := hne.symm; have hnc := hne; clear hne; have hcz0_0 : w6.cell? ⟨gb2, 0, none⟩ = some (.int .i64 0) := (blk_cell F.out.b2 0).trans rfl; have hcz0_1 : w6.cell? ⟨gb2, 1, none⟩ = some (.slice none 0 0) := (blk_cell F.out.b2 1).trans rfl; have hfz0_0 := blk_frozen F.out.b2 0; have hfz0_1 := blk_frozen F.out.b2 1)
 | ((with_reducible refine gate_callee (f := 77) rfl ?_); refine goesL_ (some 22) rfl rfl Try.func77 (by kernel_rfl) rfl #[.agg #[.int .i64 xN, .slice Ax xl.length cx]] rfl mA ?_; (with_reducible refine (impl_StableSets.calls k xN _ _ xl lG _ ?side1 ?side2 A3.out).mono ?_); (case side1 => exact (Kd.S_reads' (Go.Proofs.YtelkfhlnejlheaaW.Pick.Fs.stored (Go.Proofs.YtelkfhlnejlheaaW.Pick.Fs.stored F.out HNE.out 0 (.int .i64 xN)) HNE.out 1 (.slice Ax xl.length cx)).fX).2.2); (case side2 => exact (Kd.S_reads' F.out.fX).2.1); rintro e w7 ⟨vg, rfl, ho0, hb⟩; refine ⟨_, rfl, ?_⟩; obtain ⟨okG, F0⟩ := Go.Proofs.YtelkfhlnejlheaaW.Pick.Fs.newG (Go.Proofs.YtelkfhlnejlheaaW.Pick.Fs.stored (Go.Proofs.YtelkfhlnejlheaaW.Pick.Fs.stored F.out HNE.out 0 (.int .i64 xN)) HNE.out 1 (.slice Ax xl.length cx)) ho0 hb; clear F; have F := Aside0.mk F0; clear F0; clear hb ho0; obtain ⟨Ag, cg, eg_⟩ := Kd.S_slice F.out.fG; subst eg_; have hcz4a_0 : w7.cell? ⟨gb1, 0, none⟩ = some (.int .i64 a0_0) := (blk_cell F.out.b1 0).trans rfl; have hcz4a_1 : w7.cell? ⟨gb1, 1, none⟩ = some (.slice A0_1 l0_1.length c0_1) := (blk_cell F.out.b1 1).trans rfl; have hfz4a_0 := blk_frozen F.out.b1 0; have hfz4a_1 := blk_frozen F.out.b1 1; have hcz4b_0 : w7.cell? ⟨gb2, 0, none⟩ = some (.int .i64 xN) := (blk_cell F.out.b2 0).trans rfl; have hcz4b_1 : w7.cell? ⟨gb2, 1, none⟩ = some (.slice Ax xl.length cx) := (blk_cell F.out.b2 1).trans rfl; have hfz4b_0 := blk_frozen F.out.b2 0; have hfz4b_1 := blk_frozen F.out.b2 1)
 | ((with_reducible refine gate_callee (f := 71) rfl ?_); refine goesL_ (some 25) rfl rfl Try.func71 (by kernel_rfl) rfl #[.slice Ag lG.length cg, .slice Aw lW.length cw] rfl mA ?_; (with_reducible refine (laws_eqIntSS.calls k _ _ lG _ _ lW true _ ?side1 ?side2 ?side3 ?side4 A4.out).mono ?_); (case side1 => exact (mC (Kd.S_reads' F.out.fG).2.2)); (case side2 => exact (Kd.S_reads' F.out.fG).2.1); (case side3 => exact (mC (Kd.V_reads' F.out.fW).2.2)); (case side4 => exact (Kd.V_reads' F.out.fW).2.1); rintro e w8 ⟨rfl, hd_⟩; refine ⟨_, rfl, ?_⟩; have hb := Drawn0.below hd_; have F0 := Aside0.mk (Go.Proofs.YtelkfhlnejlheaaW.Pick.Fs.below (Go.Proofs.YtelkfhlnejlheaaW.Pick.Fs.below F.out Mv.out) hb); clear F; have F := F0; clear F0; clear hb hd_; have hcz5a_0 : w8.cell? ⟨gb1, 0, none⟩ = some (.int .i64 a0_0) := (blk_cell F.out.b1 0).trans rfl; have hcz5a_1 : w8.cell? ⟨gb1, 1, none⟩ = some (.slice A0_1 l0_1.length c0_1) := (blk_cell F.out.b1 1).trans rfl; have hfz5a_0 := blk_frozen F.out.b1 0; have hfz5a_1 := blk_frozen F.out.b1 1; have hcz5b_0 : w8.cell? ⟨gb2, 0, none⟩ = some (.int .i64 xN) := (blk_cell F.out.b2 0).trans rfl; have hcz5b_1 : w8.cell? ⟨gb2, 1, none⟩ = some (.slice Ax xl.length cx) := (blk_cell F.out.b2 1).trans rfl; have hfz5b_0 := blk_frozen F.out.b2 0; have hfz5b_1 := blk_frozen F.out.b2 1))
 have F0 := Aside0.mk (Go.Proofs.YtelkfhlnejlheaaW.Pick.Fs.below F.out (Mv.out : Below w8.heap.size w8 w8.drew))
 clear F
 have F := F0
 clear F0
 refine start_ (n := 5) (S := fun w' => w'.cell? ⟨gb2, 0, none⟩ = some (.int .i64 xN) ∧ w'.cell? ⟨gb2, 1, none⟩ = some (.slice Ax xl.length cx) ∧ w'.cell? ⟨gb1, 0, none⟩ = some (.int .i64 a0_0) ∧ w'.cell? ⟨gb1, 1, none⟩ = some (.slice A0_1 l0_1.length c0_1)) (ds := []) (L_ 0 5) (by kernel_rfl) rfl rfl ⟨(blk_cell F.out.b2 0).trans rfl, (blk_cell F.out.b2 1).trans rfl, (blk_cell F.out.b1 0).trans rfl, (blk_cell F.out.b1 1).trans rfl⟩ (fun hHeld => ?_)
 generalize w8.drew = w9 at F hHeld ⊢
 refine take_ (i := 0) (N := some 27) (v := ?_) (a' := ?_) (L_ 1 5) rfl rfl (by kernel_rfl) (fun _ _ _ h => h) (Or.inl ⟨by rfl, ?_⟩) hHeld ?_ ?_
 rotate_left
 ·
  rintro w' ⟨s0, s1, s2, s3⟩
  go_simp
  with_reducible rfl
 rotate_left
 ·
  simp only [Act.put, List.setIfInBounds_toArray, List.set_cons_zero, List.set_cons_succ, i64_w, i32_w]
  rfl
 refine take_ (i := 1) (N := some 28) (v := ?_) (a' := ?_) (L_ 2 5) rfl rfl (by kernel_rfl) (fun _ _ _ h => h) (Or.inl ⟨by rfl, ?_⟩) hHeld ?_ ?_
 rotate_left
 ·
  rintro w' ⟨s0, s1, s2, s3⟩
  go_simp
  with_reducible rfl
 rotate_left
 ·
  simp only [Act.put, List.setIfInBounds_toArray, List.set_cons_zero, List.set_cons_succ, i64_w, i32_w]
  rfl
 refine one_ (i := 2) (N := some 29) (L_ 3 5) rfl rfl (by kernel_rfl) (by decide) (fun K hK => ?_)
 refine goes_ Try.func22 (by kernel_rfl) rfl #[.agg #[.int .i64 a0_0, .slice A0_1 l0_1.length c0_1]] (by rfl) rfl rfl mA ?_
 with_reducible refine (laws_toGraph.calls k a0_0 _ _ l0_1 xN xl _ ?side1 ?side2 A1.out).mono ?_
 (case side1 => exact (mC (Kd.C_below HR0_1.out F.out.B)))
 (case side2 => exact HC0_1.out)
 rintro e w10 ⟨vs, rfl, ho0, hb⟩
 refine ⟨_, rfl, ?_⟩
 obtain ⟨As, cs_, et_⟩ := Kd.S_slice ho0
 subst et_
 have HT := Aside0.mk ho0
 have F0 := Aside0.mk (Go.Proofs.YtelkfhlnejlheaaW.Pick.Fs.below (Go.Proofs.YtelkfhlnejlheaaW.Pick.Fs.below F.out Mv.out) hb)
 clear F
 have F := F0
 clear F0 hb ho0
 refine hK.out _ _ ⟨(blk_cell F.out.b2 0).trans rfl, (blk_cell F.out.b2 1).trans rfl, (blk_cell F.out.b1 0).trans rfl, (blk_cell F.out.b1 1).trans rfl⟩ (fun hHeld => ?_)
 clear hK K
 refine norm_ (a' := ?_) ?_ ?_
 rotate_left
 ·
  show Act.put _ (some 29) _ = _
  simp only [Act.put, List.setIfInBounds_toArray, List.set_cons_zero, List.set_cons_succ, i64_w, i32_w]
  rfl
 refine one_ (i := 3) (N := some 30) (L_ 4 5) rfl rfl (by kernel_rfl) (by decide) (fun K hK => ?_)
 refine goes_ Try.func26 (by kernel_rfl) rfl #[.agg #[.int .i64 xN, .slice Ax xl.length cx], .agg #[.int .i64 xN, .slice As xl.length cs_]] (by rfl) rfl rfl mA ?_
 with_reducible refine (laws_eqGraph.calls k xN _ _ xl xN _ _ xl true _ ?side1 ?side2 ?side3 ?side4 A5.out).mono ?_
 (case side1 => exact (mC (Kd.S_reads' F.out.fX).2.2))
 (case side2 => exact (Kd.S_reads' F.out.fX).2.1)
 (case side3 => exact (Kd.S_reads' (mS HT.out)).2.2)
 (case side4 => exact (Kd.S_reads' HT.out).2.1)
 rintro e w11 ⟨rfl, hb⟩
 refine ⟨_, rfl, ?_⟩
 have F0 := Aside0.mk (Go.Proofs.YtelkfhlnejlheaaW.Pick.Fs.below (Go.Proofs.YtelkfhlnejlheaaW.Pick.Fs.below F.out Mv.out) hb)
 clear F HT
 have F := F0
 clear F0 hb
 refine hK.out _ _ ⟨(blk_cell F.out.b2 0).trans rfl, (blk_cell F.out.b2 1).trans rfl, (blk_cell F.out.b1 0).trans rfl, (blk_cell F.out.b1 1).trans rfl⟩ (fun hHeld => ?_)
 clear hK K
 refine norm_ (a' := ?_) ?_ ?_
 rotate_left
 ·
  show Act.put _ (some 30) _ = _
  simp only [Act.put, List.setIfInBounds_toArray, List.set_cons_zero, List.set_cons_succ, i64_w, i32_w]
  rfl
 refine pq 4 31 (L_ 5 5) ?_
 refine done_ (by kernel_rfl) ?_
 have hcz11a_0 : w11.cell? ⟨gb1, 0, none⟩ = some (.int .i64 a0_0) := (blk_cell F.out.b1 0).trans rfl
 have hcz11a_1 : w11.cell? ⟨gb1, 1, none⟩ = some (.slice A0_1 l0_1.length c0_1) := (blk_cell F.out.b1 1).trans rfl
 have hfz11a_0 := blk_frozen F.out.b1 0
 have hfz11a_1 := blk_frozen F.out.b1 1
 have hcz11b_0 : w11.cell? ⟨gb2, 0, none⟩ = some (.int .i64 xN) := (blk_cell F.out.b2 0).trans rfl
 have hcz11b_1 : w11.cell? ⟨gb2, 1, none⟩ = some (.slice Ax xl.length cx) := (blk_cell F.out.b2 1).trans rfl
 have hfz11b_0 := blk_frozen F.out.b2 0
 have hfz11b_1 := blk_frozen F.out.b2 1
 go_wp2_with (first
 | ((with_reducible refine gate_callee (f := 27) rfl ?_); refine goesL_ (some 34) rfl rfl Try.func27 (by kernel_rfl) rfl #[.agg #[.int .i64 xN, .slice Ax xl.length cx], .int .i64 1] rfl mA ?_; (with_reducible refine (laws_markGraph.calls k xN okX (.slice Ax xl.length cx) xl 1 m0 w _ ?side1 ?side2 A6.out).mono ?_); (case side1 => exact (Go.Proofs.YtelkfhlnejlheaaW.Pick.Fs.below F.out Mv.out).B); (case side2 => exact (Go.Proofs.YtelkfhlnejlheaaW.Pick.Fs.below F.out Mv.out).fX); rintro e w12 ⟨rfl, hb, hkp⟩; refine ⟨_, rfl, ?_⟩; have F0 := Aside0.mk (Go.Proofs.YtelkfhlnejlheaaW.Pick.Fs.markX (Go.Proofs.YtelkfhlnejlheaaW.Pick.Fs.below F.out Mv.out) hb hkp); clear F; have F := F0; clear F0; clear hb hkp; have hcz6a_0 : w12.cell? ⟨gb1, 0, none⟩ = some (.int .i64 a0_0) := (blk_cell F.out.b1 0).trans rfl; have hcz6a_1 : w12.cell? ⟨gb1, 1, none⟩ = some (.slice A0_1 l0_1.length c0_1) := (blk_cell F.out.b1 1).trans rfl; have hfz6a_0 := blk_frozen F.out.b1 0; have hfz6a_1 := blk_frozen F.out.b1 1; have hcz6b_0 : w12.cell? ⟨gb2, 0, none⟩ = some (.int .i64 xN) := (blk_cell F.out.b2 0).trans rfl; have hcz6b_1 : w12.cell? ⟨gb2, 1, none⟩ = some (.slice Ax xl.length cx) := (blk_cell F.out.b2 1).trans rfl; have hfz6b_0 := blk_frozen F.out.b2 0; have hfz6b_1 := blk_frozen F.out.b2 1)
 | (go_at_call 71; (with_reducible refine (laws_eqIntSS.calls k _ _ lG _ _ lW true _ ?side1 ?side2 ?side3 ?side4 A4.out).mono ?_); (case side1 => exact (mC (Kd.S_reads' F.out.fG).2.2)); (case side2 => exact (Kd.S_reads' F.out.fG).2.1); (case side3 => exact (mC (Kd.V_reads' F.out.fW).2.2)); (case side4 => exact (Kd.V_reads' F.out.fW).2.1); rintro e w13 ⟨rfl, hd_⟩; have hb := Drawn0.below hd_; have F0 := Aside0.mk (Go.Proofs.YtelkfhlnejlheaaW.Pick.Fs.below (Go.Proofs.YtelkfhlnejlheaaW.Pick.Fs.below F.out Mv.out) hb); clear F; have F := F0; clear F0; clear hb hd_; have hcz7a_0 : w13.cell? ⟨gb1, 0, none⟩ = some (.int .i64 a0_0) := (blk_cell F.out.b1 0).trans rfl; have hcz7a_1 : w13.cell? ⟨gb1, 1, none⟩ = some (.slice A0_1 l0_1.length c0_1) := (blk_cell F.out.b1 1).trans rfl; have hfz7a_0 := blk_frozen F.out.b1 0; have hfz7a_1 := blk_frozen F.out.b1 1; have hcz7b_0 : w13.cell? ⟨gb2, 0, none⟩ = some (.int .i64 xN) := (blk_cell F.out.b2 0).trans rfl; have hcz7b_1 : w13.cell? ⟨gb2, 1, none⟩ = some (.slice Ax xl.length cx) := (blk_cell F.out.b2 1).trans rfl; have hfz7b_0 := blk_frozen F.out.b2 0; have hfz7b_1 := blk_frozen F.out.b2 1)
 | ((with_reducible refine gate_callee (f := 72) rfl ?_); refine goesL_ (some 45) rfl rfl Try.func72 (by kernel_rfl) rfl #[.slice Ag lG.length cg, .int .i64 1] rfl mA ?_; (with_reducible refine (laws_markIntSS.calls k okG (.slice Ag lG.length cg) lG 1 q lM w _ ?side1 ?side2 A7.out).mono ?_); (case side1 => exact (Go.Proofs.YtelkfhlnejlheaaW.Pick.Fs.below F.out Mv.out).B); (case side2 => exact (Go.Proofs.YtelkfhlnejlheaaW.Pick.Fs.below F.out Mv.out).fG); rintro e w14 ⟨rfl, hS, hb, hkp⟩; refine ⟨_, rfl, ?_⟩; obtain ⟨okH, F0⟩ := Go.Proofs.YtelkfhlnejlheaaW.Pick.Fs.markG (Go.Proofs.YtelkfhlnejlheaaW.Pick.Fs.below F.out Mv.out) hb hkp hS; clear F; have F := Aside0.mk F0; clear F0; clear hb hkp hS; have hl_ := (Kd.S_reads' F.out.fG).1; rw [hl_]; rw [hl_] at F; clear hl_; have hcz8a_0 : w14.cell? ⟨gb1, 0, none⟩ = some (.int .i64 a0_0) := (blk_cell F.out.b1 0).trans rfl; have hcz8a_1 : w14.cell? ⟨gb1, 1, none⟩ = some (.slice A0_1 l0_1.length c0_1) := (blk_cell F.out.b1 1).trans rfl; have hfz8a_0 := blk_frozen F.out.b1 0; have hfz8a_1 := blk_frozen F.out.b1 1; have hcz8b_0 : w14.cell? ⟨gb2, 0, none⟩ = some (.int .i64 xN) := (blk_cell F.out.b2 0).trans rfl; have hcz8b_1 : w14.cell? ⟨gb2, 1, none⟩ = some (.slice Ax xl.length cx) := (blk_cell F.out.b2 1).trans rfl; have hfz8b_0 := blk_frozen F.out.b2 0; have hfz8b_1 := blk_frozen F.out.b2 1)
 | ((with_reducible refine gate_callee (f := 73) rfl ?_); refine goesL_ (some 48) rfl rfl Try.func73 (by kernel_rfl) rfl #[.slice Ag lM.length cg, .int .i64 1] rfl mA ?_; (with_reducible refine (laws_heldIntSS.calls k _ _ lM 1 q _ ?side1 ?side2 A8.out).mono ?_); (case side1 => exact (mC (Kd.S_reads' F.out.fG).2.2)); (case side2 => exact (Kd.S_reads' F.out.fG).2.1); rintro e w15 ⟨rfl, hd_⟩; refine ⟨_, rfl, ?_⟩; have hb := Drawn0.below hd_; have F0 := Aside0.mk (Go.Proofs.YtelkfhlnejlheaaW.Pick.Fs.below (Go.Proofs.YtelkfhlnejlheaaW.Pick.Fs.below F.out Mv.out) hb); clear F; have F := F0; clear F0; clear hb hd_; have hcz12a_0 : w15.cell? ⟨gb1, 0, none⟩ = some (.int .i64 a0_0) := (blk_cell F.out.b1 0).trans rfl; have hcz12a_1 : w15.cell? ⟨gb1, 1, none⟩ = some (.slice A0_1 l0_1.length c0_1) := (blk_cell F.out.b1 1).trans rfl; have hfz12a_0 := blk_frozen F.out.b1 0; have hfz12a_1 := blk_frozen F.out.b1 1; have hcz12b_0 : w15.cell? ⟨gb2, 0, none⟩ = some (.int .i64 xN) := (blk_cell F.out.b2 0).trans rfl; have hcz12b_1 : w15.cell? ⟨gb2, 1, none⟩ = some (.slice Ax xl.length cx) := (blk_cell F.out.b2 1).trans rfl; have hfz12b_0 := blk_frozen F.out.b2 0; have hfz12b_1 := blk_frozen F.out.b2 1)
 | ((with_reducible refine gate_callee (f := 22) rfl ?_); refine goesL_ (some 55) rfl rfl Try.func22 (by kernel_rfl) rfl #[.agg #[.int .i64 a0_0, .slice A0_1 l0_1.length c0_1]] rfl mA ?_; (with_reducible refine (laws_toGraph.calls k a0_0 _ _ l0_1 xN xl _ ?side1 ?side2 A1.out).mono ?_); (case side1 => exact (mC (Kd.C_below HR0_1.out F.out.B))); (case side2 => exact HC0_1.out); rintro e w16 ⟨vu, rfl, ho0, hb⟩; refine ⟨_, rfl, ?_⟩; obtain ⟨Au, cu, et_⟩ := Kd.S_slice ho0; subst et_; have HT := Aside0.mk ho0; have F0 := Aside0.mk (Go.Proofs.YtelkfhlnejlheaaW.Pick.Fs.below (Go.Proofs.YtelkfhlnejlheaaW.Pick.Fs.below F.out Mv.out) hb); clear F; have F := F0; clear F0; clear hb ho0)
 | ((with_reducible refine gate_callee (f := 77) rfl ?_); refine goesL_ (some 56) rfl rfl Try.func77 (by kernel_rfl) rfl #[.agg #[.int .i64 xN, .slice Au xl.length cu]] rfl mA ?_; (with_reducible refine (impl_StableSets.calls k xN _ _ xl lG _ ?side1 ?side2 A3.out).mono ?_); (case side1 => exact (Kd.S_reads' (mS HT.out)).2.2); (case side2 => exact (Kd.S_reads' HT.out).2.1); rintro e w17 ⟨vh, rfl, ho0, hb⟩; refine ⟨_, rfl, ?_⟩; have F0 := Aside0.mk (Go.Proofs.YtelkfhlnejlheaaW.Pick.Fs.below (Go.Proofs.YtelkfhlnejlheaaW.Pick.Fs.below F.out Mv.out) hb); clear F; have F := F0; clear F0 HT; obtain ⟨Ah, ch, eh_⟩ := Kd.S_slice ho0; subst eh_; have HH := Aside0.mk ho0; clear hb ho0; have hcz9a_0 : w17.cell? ⟨gb1, 0, none⟩ = some (.int .i64 a0_0) := (blk_cell F.out.b1 0).trans rfl; have hcz9a_1 : w17.cell? ⟨gb1, 1, none⟩ = some (.slice A0_1 l0_1.length c0_1) := (blk_cell F.out.b1 1).trans rfl; have hfz9a_0 := blk_frozen F.out.b1 0; have hfz9a_1 := blk_frozen F.out.b1 1; have hcz9b_0 : w17.cell? ⟨gb2, 0, none⟩ = some (.int .i64 xN) := (blk_cell F.out.b2 0).trans rfl; have hcz9b_1 : w17.cell? ⟨gb2, 1, none⟩ = some (.slice Ax xl.length cx) := (blk_cell F.out.b2 1).trans rfl; have hfz9b_0 := blk_frozen F.out.b2 0; have hfz9b_1 := blk_frozen F.out.b2 1)
 | ((with_reducible refine gate_callee (f := 71) rfl ?_); refine goesL_ (some 59) rfl rfl Try.func71 (by kernel_rfl) rfl #[.slice Ah lG.length ch, .slice Aw lW.length cw] rfl mA ?_; (with_reducible refine (laws_eqIntSS.calls k _ _ lG _ _ lW true _ ?side1 ?side2 ?side3 ?side4 A4.out).mono ?_); (case side1 => exact (mC (Kd.S_reads' HH.out).2.2)); (case side2 => exact (Kd.S_reads' HH.out).2.1); (case side3 => exact (mC (Kd.V_reads' F.out.fW).2.2)); (case side4 => exact (Kd.V_reads' F.out.fW).2.1); rintro e w18 ⟨rfl, hd_⟩; refine ⟨_, rfl, ?_⟩; have hb := Drawn0.below hd_; have F0 := Aside0.mk (Go.Proofs.YtelkfhlnejlheaaW.Pick.Fs.below (Go.Proofs.YtelkfhlnejlheaaW.Pick.Fs.below F.out Mv.out) hb); clear F; have F := F0; clear F0; clear hb hd_; have hcz10a_0 : w18.cell? ⟨gb1, 0, none⟩ = some (.int .i64 a0_0) := (blk_cell F.out.b1 0).trans rfl; have hcz10a_1 : w18.cell? ⟨gb1, 1, none⟩ = some (.slice A0_1 l0_1.length c0_1) := (blk_cell F.out.b1 1).trans rfl; have hfz10a_0 := blk_frozen F.out.b1 0; have hfz10a_1 := blk_frozen F.out.b1 1; have hcz10b_0 : w18.cell? ⟨gb2, 0, none⟩ = some (.int .i64 xN) := (blk_cell F.out.b2 0).trans rfl; have hcz10b_1 : w18.cell? ⟨gb2, 1, none⟩ = some (.slice Ax xl.length cx) := (blk_cell F.out.b2 1).trans rfl; have hfz10b_0 := blk_frozen F.out.b2 0; have hfz10b_1 := blk_frozen F.out.b2 1)
 | ((with_reducible refine gate_callee (f := 73) rfl ?_); refine goesL_ (some 63) rfl rfl Try.func73 (by kernel_rfl) rfl #[.slice Ag lM.length cg, .int .i64 1] rfl mA ?_; (with_reducible refine (laws_heldIntSS.calls k _ _ lM 1 q _ ?side1 ?side2 A8.out).mono ?_); (case side1 => exact (mC (Kd.S_reads' F.out.fG).2.2)); (case side2 => exact (Kd.S_reads' F.out.fG).2.1); rintro e w19 ⟨rfl, hd_⟩; refine ⟨_, rfl, ?_⟩; have hb := Drawn0.below hd_; have F0 := Aside0.mk (Go.Proofs.YtelkfhlnejlheaaW.Pick.Fs.below (Go.Proofs.YtelkfhlnejlheaaW.Pick.Fs.below F.out Mv.out) hb); clear F; have F := F0; clear F0; clear hb hd_; have hcz13a_0 : w19.cell? ⟨gb1, 0, none⟩ = some (.int .i64 a0_0) := (blk_cell F.out.b1 0).trans rfl; have hcz13a_1 : w19.cell? ⟨gb1, 1, none⟩ = some (.slice A0_1 l0_1.length c0_1) := (blk_cell F.out.b1 1).trans rfl; have hfz13a_0 := blk_frozen F.out.b1 0; have hfz13a_1 := blk_frozen F.out.b1 1; have hcz13b_0 : w19.cell? ⟨gb2, 0, none⟩ = some (.int .i64 xN) := (blk_cell F.out.b2 0).trans rfl; have hcz13b_1 : w19.cell? ⟨gb2, 1, none⟩ = some (.slice Ax xl.length cx) := (blk_cell F.out.b2 1).trans rfl; have hfz13b_0 := blk_frozen F.out.b2 0; have hfz13b_1 := blk_frozen F.out.b2 1))
 go_ret
 exact ⟨rfl, (Go.Proofs.YtelkfhlnejlheaaW.Pick.Fs.below F.out Mv.out).B⟩
end Go.Proofs.Ytelkfhlnejlheaa.GFnExactStableSets
