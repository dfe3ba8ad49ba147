/- The program's InAll answers as the reference's does, for all lists of lists, leaves its argument alone and hands back memory of its own. Conditions: none. -/
import Derived.Test.YtomnploadmbagaaGFnExactInAllx4
import Derived.OpenShut
namespace Go.Proofs.Ytomnploadmbagaa.Pure
open Go.RowKit Go.Proofs.Ytomnploadmbagaa.GFnExactInAll Go.Proofs.YtomnploadmbagaaW.PrintWords Go.Proofs.YtomnploadmbagaaW.PrintLast
theorem wr {i : Int} (h0 : -9223372036854775808 ≤ i) (h : i ≤ 9223372036854775807) : wrap64 i = i := by unfold wrap64; omega
theorem wrs {i : Nat} (h : i < 9223372036854775807) : wrap64 ((i : Int) + 1) = ((i + 1 : Nat) : Int) := by unfold wrap64; omega
theorem rd_nat (l : List Int) (i : Nat) (h : i < l.length) : rd l (i : Int) = l[i] := by simp [rd, h]
theorem rd_some (l : List Int) (i : Nat) (h : i < l.length) : l[i]? = some (rd l (i : Int)) := by rw [rd_nat l i h, List.getElem?_eq_getElem h]
theorem rounds_succ {d k : Nat} (h : d < k) : ∃ m, k = m + 1 := ⟨k - 1, by omega⟩
theorem rdL_nat (l : List (List Int)) (i : Nat) (h : i < l.length) : rd_L1 l (i : Int) = l[i] := by simp [rd_L1, h]
theorem rdL_some (l : List (List Int)) (i : Nat) (h : i < l.length) : l[i]? = some (rd_L1 l (i : Int)) := by rw [rdL_nat l i h, List.getElem?_eq_getElem h]
theorem rdL_mem (l : List (List Int)) (i : Nat) (h : i < l.length) : rd_L1 l (i : Int) ∈ l := by rw [rdL_nat l i h]; exact List.getElem_mem h
theorem rdL_drop (l : List (List Int)) (i : Nat) (h : i < l.length) : l.drop i = rd_L1 l (i : Int) :: l.drop (i + 1) := by rw [rdL_nat l i h]; exact List.drop_eq_getElem_cons h
theorem szSS_l (l : List (List Int)) (hl : l.length ≤ 1048576) (hr : ∀ r ∈ l, r.length ≤ maxLen) : ∀ (d k i : Nat) (a : Int), 0 ≤ a → a ≤ 1048576 → i + d = l.length → d < k → ∃ t, laws_szIntSS.l0 k l a i = some t ∧ t ≤ 1048576 ∧ (0 ≤ t → ∀ r ∈ l.drop i, r.length ≤ 1048576) := by
  intro d
  induction d with
  | zero =>
    intro k i a h0 h1 hd hk
    obtain ⟨k, rfl⟩ := rounds_succ hk
    simp only [laws_szIntSS.l0]; rw [if_neg (by omega)]
    exact ⟨a, rfl, h1, fun _ r hr => by rw [List.drop_eq_nil_of_le (by omega)] at hr; cases hr⟩
  | succ d ih =>
    intro k i a h0 h1 hd hk
    obtain ⟨k, rfl⟩ := rounds_succ hk
    have hm := hr _ (rdL_mem l i (by omega))
    unfold maxLen at hm
    simp only [laws_szIntSS.l0]; rw [if_pos (by omega), if_pos (by omega), wrs (by omega), rdL_drop l i (by omega)]
    generalize rd_L1 l (i : Int) = r at hm ⊢
    unfold laws_szIntS.f
    rw [wr (i := a - (r.length : Int)) (by omega) (by omega)]
    by_cases h : a - (r.length : Int) < 0
    · rw [if_pos h, Option.bind_some, if_pos (by omega)]
      exact ⟨-1, rfl, by omega, fun h => by omega⟩
    · rw [if_neg h, Option.bind_some, if_neg h]
      obtain ⟨t, ht, h2, h3⟩ := ih k (i + 1) _ (show 0 ≤ a - (r.length : Int) by omega) (by omega) (by omega) (by omega)
      refine ⟨t, ht, h2, fun h4 r' hr' => ?_⟩
      rcases List.mem_cons.1 hr' with e | e
      · subst e; omega
      · exact h3 h4 r' e
theorem szSS_eq (l : List (List Int)) (hl : l.length ≤ maxLen) (hr : ∀ r ∈ l, r.length ≤ maxLen) (k : Nat) (hk : l.length < k ∨ 1048576 < k) : ∃ t, laws_szIntSS.f k l 1048576 = some t ∧ (0 ≤ t → l.length ≤ 1048576 ∧ ∀ r ∈ l, r.length ≤ 1048576) := by
  unfold maxLen at hl
  unfold laws_szIntSS.f
  rw [wr (i := 1048576 - (l.length : Int)) (by omega) (by omega)]
  by_cases h : 1048576 - (l.length : Int) < 0
  · rw [if_pos h]; exact ⟨-1, rfl, fun h => by omega⟩
  · rw [if_neg h]
    obtain ⟨t, ht, _, h3⟩ := szSS_l l (by omega) hr l.length k 0 _ (show 0 ≤ 1048576 - (l.length : Int) by omega) (by omega) (by omega) (by omega)
    exact ⟨t, ht, fun h4 => ⟨by omega, fun r hr => h3 h4 r (by simpa using hr)⟩⟩
theorem laws_toIntS_l (l : List Int) (hl : l.length ≤ 1048576) : ∀ (d k i : Nat) (xs : List Int), xs.length = l.length → (∀ j, j < i → xs[j]? = l[j]?) → i + d = l.length → d < k → laws_toIntS.l0 k l xs i = some l := by
  intro d
  induction d with
  | zero =>
    intro k i xs hx hp hd hk
    obtain ⟨k, rfl⟩ := rounds_succ hk
    simp only [laws_toIntS.l0]; rw [if_neg (by omega)]
    congr 1
    refine List.ext_getElem? fun j => ?_
    by_cases hj : j < i
    · exact hp j hj
    · rw [List.getElem?_eq_none (by omega), List.getElem?_eq_none (by omega)]
  | succ d ih =>
    intro k i xs hx hp hd hk
    obtain ⟨k, rfl⟩ := rounds_succ hk
    simp only [laws_toIntS.l0]; rw [if_pos (by omega), if_pos (by omega), if_pos (by omega), wrs (by omega), Int.toNat_natCast]
    refine ih k (i + 1) _ (by simp [hx]) ?_ (by omega) (by omega)
    intro j hj
    rw [List.getElem?_set]
    by_cases e : i = j
    · subst e; rw [if_pos rfl, if_pos (by omega), rd_some l i (by omega)]
    · rw [if_neg e]; exact hp j (by omega)
theorem laws_toIntS_eq (l : List Int) (hl : l.length ≤ 1048576) (k : Nat) (hk : l.length < k) : laws_toIntS.f k l = some l := by
  unfold laws_toIntS.f
  rw [if_pos (by omega), if_pos (by omega)]
  exact laws_toIntS_l l hl l.length k 0 _ (by simp) (fun j hj => by omega) (by omega) hk
theorem toSS_l (l : List (List Int)) (hl : l.length ≤ 1048576) (hr : ∀ r ∈ l, r.length ≤ 1048576) : ∀ (d k i : Nat) (xs : List (List Int)), xs.length = l.length → (∀ j, j < i → xs[j]? = l[j]?) → i + d = l.length → d + 1048576 < k → laws_toIntSS.l0 k l xs i = some l := by
  intro d
  induction d with
  | zero =>
    intro k i xs hx hp hd hk
    obtain ⟨k, rfl⟩ := rounds_succ hk
    simp only [laws_toIntSS.l0]; rw [if_neg (by omega)]
    congr 1
    refine List.ext_getElem? fun j => ?_
    by_cases hj : j < i
    · exact hp j hj
    · rw [List.getElem?_eq_none (by omega), List.getElem?_eq_none (by omega)]
  | succ d ih =>
    intro k i xs hx hp hd hk
    obtain ⟨k, rfl⟩ := rounds_succ hk
    have hm := hr _ (rdL_mem l i (by omega))
    simp only [laws_toIntSS.l0]; rw [if_pos (by omega), if_pos (by omega), laws_toIntS_eq _ hm k (by omega), Option.bind_some, if_pos (by omega), wrs (by omega), Int.toNat_natCast]
    refine ih k (i + 1) _ (by simp [hx]) ?_ (by omega) (by omega)
    intro j hj
    rw [List.getElem?_set]
    by_cases e : i = j
    · subst e; rw [if_pos rfl, if_pos (by omega), rdL_some l i (by omega)]
    · rw [if_neg e]; exact hp j (by omega)
theorem laws_toIntSS_eq (l : List (List Int)) (hl : l.length ≤ 1048576) (hr : ∀ r ∈ l, r.length ≤ 1048576) (k : Nat) (hk : 2097152 < k) : laws_toIntSS.f k l = some l := by
  unfold laws_toIntSS.f
  rw [if_pos (by omega), if_pos (by omega)]
  exact toSS_l l hl hr l.length k 0 _ (by simp) (fun j hj => by omega) (by omega) (by omega)
theorem laws_eqIntS_l (a b : List Int) (hl : a.length ≤ 1099511627776) (hab : a.length = b.length) : ∀ (d k i : Nat), (∀ j, j < i → a[j]? = b[j]?) → i + d = a.length → d < k → laws_eqIntS.l0 k a b i = some (decide (a = b)) := by
  intro d
  induction d with
  | zero =>
    intro k i hp hd hk
    obtain ⟨k, rfl⟩ := rounds_succ hk
    simp only [laws_eqIntS.l0]; rw [if_neg (by omega)]
    have : a = b := by
      refine List.ext_getElem? fun j => ?_
      by_cases hj : j < i
      · exact hp j hj
      · rw [List.getElem?_eq_none (by omega), List.getElem?_eq_none (by omega)]
    simp [this]
  | succ d ih =>
    intro k i hp hd hk
    obtain ⟨k, rfl⟩ := rounds_succ hk
    simp only [laws_eqIntS.l0]; rw [if_pos (by omega), if_pos (by omega), if_pos (by omega)]
    by_cases e : rd a i = rd b i
    · rw [if_pos e, wrs (by omega)]
      refine ih k (i + 1) ?_ (by omega) (by omega)
      intro j hj
      by_cases e' : j = i
      · subst e'; rw [rd_some a j (by omega), rd_some b j (by omega), e]
      · exact hp j (by omega)
    · rw [if_neg e]
      have : ¬ a = b := fun h => e (by rw [h])
      simp [this]
theorem laws_eqIntS_eq (a b : List Int) (hl : a.length ≤ 1099511627776) (k : Nat) (hk : a.length < k) : laws_eqIntS.f k a b = some (decide (a = b)) := by
  unfold laws_eqIntS.f
  by_cases h : a.length = b.length
  · rw [if_pos (by omega)]
    exact laws_eqIntS_l a b hl h a.length k 0 (fun j hj => by omega) (by omega) hk
  · rw [if_neg (by omega)]
    have : ¬ a = b := fun e => h (by rw [e])
    simp [this]
theorem eqSS_l (a b : List (List Int)) (hl : a.length ≤ 1099511627776) (hr : ∀ r ∈ a, r.length ≤ 1048576) (hab : a.length = b.length) : ∀ (d k i : Nat), (∀ j, j < i → a[j]? = b[j]?) → i + d = a.length → d + 1048576 < k → laws_eqIntSS.l0 k a b i = some (decide (a = b)) := by
  intro d
  induction d with
  | zero =>
    intro k i hp hd hk
    obtain ⟨k, rfl⟩ := rounds_succ hk
    simp only [laws_eqIntSS.l0]; rw [if_neg (by omega)]
    have : a = b := by
      refine List.ext_getElem? fun j => ?_
      by_cases hj : j < i
      · exact hp j hj
      · rw [List.getElem?_eq_none (by omega), List.getElem?_eq_none (by omega)]
    simp [this]
  | succ d ih =>
    intro k i hp hd hk
    obtain ⟨k, rfl⟩ := rounds_succ hk
    have hm := hr _ (rdL_mem a i (by omega))
    simp only [laws_eqIntSS.l0]; rw [if_pos (by omega), if_pos (by omega), if_pos (by omega), laws_eqIntS_eq _ _ (by omega) k (by omega), Option.bind_some]
    by_cases e : rd_L1 a i = rd_L1 b i
    · rw [if_pos (by simp [e]), wrs (by omega)]
      refine ih k (i + 1) ?_ (by omega) (by omega)
      intro j hj
      by_cases e' : j = i
      · subst e'; rw [rdL_some a j (by omega), rdL_some b j (by omega), e]
      · exact hp j (by omega)
    · rw [if_neg (by simp [e])]
      have : ¬ a = b := fun h => e (by rw [h])
      simp [this]
theorem laws_eqIntSS_eq (a b : List (List Int)) (hl : a.length ≤ 1099511627776) (hr : ∀ r ∈ a, r.length ≤ 1048576) (k : Nat) (hk : a.length + 1048576 < k) : laws_eqIntSS.f k a b = some (decide (a = b)) := by
  unfold laws_eqIntSS.f
  by_cases h : a.length = b.length
  · rw [if_pos (by omega)]
    exact eqSS_l a b hl hr h a.length k 0 (fun j hj => by omega) (by omega) hk
  · rw [if_neg (by omega)]
    have : ¬ a = b := fun e => h (by rw [e])
    simp [this]
theorem idx_l (S : List Int) (c : Int) (hS : S.length ≤ 1099511627776) : ∀ (d k i : Nat), i + d = S.length → d < k → ∃ t, slices_Index_int_int.l0 k S c (S.length : Int) i = some t ∧ (t ≥ 0 ↔ c ∈ S.drop i) := by
  intro d
  induction d with
  | zero =>
    intro k i hd hk
    obtain ⟨k, rfl⟩ := rounds_succ hk
    simp only [slices_Index_int_int.l0]; rw [if_neg (by omega), List.drop_eq_nil_of_le (by omega)]
    exact ⟨-1, rfl, by simp⟩
  | succ d ih =>
    intro k i hd hk
    obtain ⟨k, rfl⟩ := rounds_succ hk
    simp only [slices_Index_int_int.l0]; rw [if_pos (by omega), if_pos (by omega), if_pos (by omega), wrs (by omega)]
    have e : S.drop i = rd S i :: S.drop (i + 1) := by rw [rd_nat S i (by omega)]; exact List.drop_eq_getElem_cons _
    rw [e]
    by_cases h : c = rd S (i : Int)
    · rw [if_pos h]; exact ⟨i, rfl, by simp [← h]⟩
    · rw [if_neg h]
      obtain ⟨t, ht, h2⟩ := ih k (i + 1) (by omega) (by omega)
      exact ⟨t, ht, by rw [h2]; simp [h]⟩
theorem contains_eq (S : List Int) (c : Int) (hS : S.length ≤ 1099511627776) (k : Nat) (hk : S.length < k) : slices_Contains_int_int.f k S c = some (decide (c ∈ S)) := by
  obtain ⟨t, ht, h⟩ := idx_l S c hS S.length k 0 (by omega) hk
  rw [List.drop_zero] at h
  unfold slices_Contains_int_int.f slices_Index_int_int.f
  rw [show (0 : Int) = ((0 : Nat) : Int) from rfl, ht, Option.bind_some]
  simp [← h]
theorem spec_l4Has_l (S : List Int) (c : Int) (hS : S.length ≤ 1099511627776) : ∀ (d k i : Nat), i + d = S.length → d < k → spec_l4Has.l0 k S c i = some (decide (c ∈ S.drop i)) := by
  intro d
  induction d with
  | zero =>
    intro k i hd hk
    obtain ⟨k, rfl⟩ := rounds_succ hk
    simp only [spec_l4Has.l0]; rw [if_neg (by omega), List.drop_eq_nil_of_le (by omega)]; simp
  | succ d ih =>
    intro k i hd hk
    obtain ⟨k, rfl⟩ := rounds_succ hk
    simp only [spec_l4Has.l0]; rw [if_pos (by omega), if_pos (by omega), wrs (by omega), ih k (i + 1) (by omega) (by omega)]
    have e : S.drop i = rd S i :: S.drop (i + 1) := by rw [rd_nat S i (by omega)]; exact List.drop_eq_getElem_cons _
    rw [e]
    by_cases h : rd S (i : Int) = c
    · rw [if_pos h]; simp [h]
    · rw [if_neg h]
      have : ¬ c = rd S (i : Int) := fun e => h e.symm
      simp [this]
theorem spec_l4Has_eq (S : List Int) (c : Int) (hS : S.length ≤ 1099511627776) (k : Nat) (hk : S.length < k) : spec_l4Has.f k S c = some (decide (c ∈ S)) := by
  have := spec_l4Has_l S c hS S.length k 0 (by omega) hk
  unfold spec_l4Has.f
  simpa using this
theorem laws_markIntS_e (a0 : Int) (n : Nat) (h0 : 0 ≤ a0) (h1 : a0 + n ≤ 4611686018427387904) : ∀ (d k i : Nat) (x : List Int) (a : Int), x.length = n → a = a0 + i → i + d = n → d < k →
    ∃ m, laws_markIntS.l0 k x a i = some (a0 + n, m) := by
  intro d
  induction d with
  | zero =>
    intro k i x a hx ha hd hk
    obtain ⟨k, rfl⟩ := rounds_succ hk
    simp only [laws_markIntS.l0]; rw [if_neg (by omega)]
    exact ⟨x, by rw [ha]; congr 2; omega⟩
  | succ d ih =>
    intro k i x a hx ha hd hk
    obtain ⟨k, rfl⟩ := rounds_succ hk
    simp only [laws_markIntS.l0]; rw [if_pos (by omega), if_pos (by omega), wrs (by omega), wr (i := a + 1) (by omega) (by omega), Int.toNat_natCast]
    exact ih k (i + 1) _ _ (by simp [hx]) (by omega) (by omega) (by omega)
theorem laws_markIntS_ends (l : List Int) (a : Int) (h0 : 0 ≤ a) (h1 : a + l.length ≤ 4611686018427387904) (k : Nat) (hk : l.length < k) : ∃ m, laws_markIntS.f k l a = some (a + l.length, m) :=
  laws_markIntS_e a l.length h0 h1 l.length k 0 l a rfl (by omega) (by omega) hk
theorem markSS_l (B : Nat) (hB : B ≤ 1048576) (N : Nat) (hN : N ≤ 1048576) : ∀ (d k i : Nat) (x : List (List Int)) (a : Int), x.length = N → (∀ j, i ≤ j → (x.getD j []).length ≤ B) → 0 ≤ a → a ≤ 1 + (i * B : Nat) → i + d = N → d + B < k → ∃ m y, laws_markIntSS.l0 k x a i = some (m, y) ∧ 0 ≤ m ∧ m ≤ 1 + (N * B : Nat) := by
  intro d
  induction d with
  | zero =>
    intro k i x a hx hr h0 h1 hd hk
    obtain ⟨k, rfl⟩ := rounds_succ hk
    simp only [laws_markIntSS.l0]; rw [if_neg (by omega)]
    have hiN : i = N := by omega
    exact ⟨a, x, rfl, h0, by rw [← hiN]; exact h1⟩
  | succ d ih =>
    intro k i x a hx hr h0 h1 hd hk
    obtain ⟨k, rfl⟩ := rounds_succ hk
    have hi := hr i (Nat.le_refl _)
    have hib : i * B ≤ 1048576 * 1048576 := Nat.mul_le_mul (by omega) hB
    obtain ⟨m, hm⟩ := laws_markIntS_ends (x.getD i []) a h0 (by omega) k (by omega)
    simp only [laws_markIntSS.l0]; rw [if_pos (by omega), if_pos (by omega), Int.toNat_natCast, hm, Option.bind_some, wrs (by omega)]
    refine ih k (i + 1) _ _ (by simp [hx]) ?_ (by omega) (by rw [Nat.succ_mul]; omega) (by omega) (by omega)
    intro j hj
    have : (x.set i m).getD j [] = x.getD j [] := by
      simp only [List.getD_eq_getElem?_getD]
      rw [List.getElem?_set_ne (by omega)]
    rw [this]
    exact hr j (by omega)
def allb (s : List (List Int)) (n : Int) : Bool := s.all fun x => decide (n ∈ x)
def inA : List (List Int) → List Int
  | [] => []
  | f :: s => f.filter (allb (f :: s))
theorem inA_len (l : List (List Int)) (hr : ∀ r ∈ l, r.length ≤ 1048576) : (inA l).length ≤ 1048576 := by
  cases l with
  | nil => simp [inA]
  | cons f s => exact Nat.le_trans List.filter_sublist.length_le (hr f List.mem_cons_self)
theorem idx_q (k : Nat) (n : Int) (hk : 1048576 < k) : ∀ (s : List (List Int)) (i : Int), (∀ r ∈ s, r.length ≤ 1048576) → 0 ≤ i → ∃ t, slices_IndexFunc_L.idx (impl_InAll.q k n) s i = some t ∧ (0 ≤ t ↔ ¬ allb s n = true) := by
  intro s
  induction s with
  | nil => intro i _ _; exact ⟨-1, rfl, by simp [allb]⟩
  | cons x s ih =>
    intro i hr h0
    have hx := hr x List.mem_cons_self
    unfold slices_IndexFunc_L.idx impl_InAll.q
    rw [contains_eq x n (by omega) k (by omega), Option.bind_some, Option.bind_some]
    by_cases h : n ∈ x
    · rw [if_neg (by simp [h])]
      obtain ⟨t, ht, e⟩ := ih (i + 1) (fun r hr' => hr r (List.mem_cons_of_mem _ hr')) (by omega)
      exact ⟨t, ht, by rw [e]; simp [allb, h]⟩
    · rw [if_pos (by simp [h])]
      exact ⟨i, rfl, by simp [allb, h, h0]⟩
theorem impl_InAll_l (s : List (List Int)) (f : List Int) (hr : ∀ r ∈ s, r.length ≤ 1048576) (hf : f.length ≤ 1048576) : ∀ (d k i : Nat) (o : List Int), i + d = f.length → o.length ≤ i → d + 1048576 < k → impl_InAll.l0 k s o f i = some (o ++ (f.drop i).filter (allb s)) := by
  intro d
  induction d with
  | zero =>
    intro k i o hd ho hk
    obtain ⟨k, rfl⟩ := rounds_succ hk
    simp only [impl_InAll.l0]; rw [if_neg (by omega), List.drop_eq_nil_of_le (by omega)]; simp
  | succ d ih =>
    intro k i o hd ho hk
    obtain ⟨k, rfl⟩ := rounds_succ hk
    have e : f.drop i = rd f i :: f.drop (i + 1) := by rw [rd_nat f i (by omega)]; exact List.drop_eq_getElem_cons _
    obtain ⟨t, ht, h⟩ := idx_q k (rd f i) (by omega) s 0 hr (by omega)
    simp only [impl_InAll.l0]; rw [if_pos (by omega), if_pos (by omega), ht, Option.bind_some, wrs (by omega), e]
    by_cases c : 0 ≤ t
    · rw [if_pos c, ih k (i + 1) o (by omega) (by omega) (by omega), List.filter_cons_of_neg (h.1 c)]
    · rw [if_neg c, if_pos (by omega), ih k (i + 1) _ (by omega) (by rw [List.length_append, List.length_singleton]; omega) (by omega)]
      have : allb s (rd f i) = true := by
        cases hb : allb s (rd f i) with
        | true => rfl
        | false => exact absurd (h.2 (by simp [hb])) c
      rw [List.filter_cons_of_pos this, List.append_assoc]; rfl
theorem impl_InAll_eq (l : List (List Int)) (hl : l.length ≤ 1048576) (hr : ∀ r ∈ l, r.length ≤ 1048576) (k : Nat) (hk : 2097160 < k) : impl_InAll.f k l = some (inA l) := by
  unfold impl_InAll.f
  cases l with
  | nil => rw [if_pos (by simp)]; rfl
  | cons f s =>
    have hf := hr f List.mem_cons_self
    rw [if_neg (by simp only [List.length_cons]; omega), show rd_L1 (f :: s) 0 = f from rfl, show (0 : Int) = ((0 : Nat) : Int) from rfl, impl_InAll_l (f :: s) f hr hf f.length k 0 [] (by omega) (by simp) (by omega)]
    rfl
theorem spec_InAll_l1 (f : List Int) (s : List (List Int)) (hl : (f :: s).length ≤ 1048576) (hr : ∀ r ∈ f :: s, r.length ≤ 1048576) (o : List Int) (i : Nat) (hi : i < f.length) (ho : o.length ≤ 1048576) : ∀ (d k j : Nat) (b : Bool), 1 ≤ j → j + d = (f :: s).length → d + 1048577 < k →
    spec_InAll.l1 k (f :: s) o i b j = spec_InAll.l0 (k - d - 1) (f :: s) (if (b && ((f :: s).drop j).all (fun x => decide (rd f i ∈ x))) = true then o ++ [rd f i] else o) ((i + 1 : Nat) : Int) := by
  have hf := hr f List.mem_cons_self
  intro d
  induction d with
  | zero =>
    intro k j b hj hd hk
    obtain ⟨k, rfl⟩ := rounds_succ hk
    simp only [spec_InAll.l1]; rw [if_neg (by omega), List.drop_eq_nil_of_le (by omega), show rd_L1 (f :: s) 0 = f from rfl, wrs (by omega)]
    rw [show k + 1 - 0 - 1 = k by omega]
    cases b with
    | true =>
      rw [if_pos rfl, if_pos (by simp only [List.length_cons]; omega), if_pos (by omega), if_pos (by omega), if_pos (by omega)]
      simp
    | false => simp
  | succ d ih =>
    intro k j b hj hd hk
    obtain ⟨k, rfl⟩ := rounds_succ hk
    have hm := hr _ (rdL_mem (f :: s) j (by omega))
    simp only [spec_InAll.l1]; rw [if_pos (by omega), show rd_L1 (f :: s) 0 = f from rfl, wrs (by omega), rdL_drop (f :: s) j (by omega), List.all_cons]
    rw [show k + 1 - (d + 1) - 1 = k - d - 1 by omega]
    cases b with
    | true =>
      rw [if_pos rfl, if_pos (by omega), if_pos (by simp only [List.length_cons]; omega), if_pos (by omega), if_pos (by omega), spec_l4Has_eq _ _ (by omega) k (by omega), Option.bind_some, ih k (j + 1) _ (by omega) (by omega) (by omega), Bool.true_and]
    | false =>
      rw [if_neg (by simp), ih k (j + 1) _ (by omega) (by omega) (by omega)]
      simp
theorem spec_InAll_l0 (f : List Int) (s : List (List Int)) (hl : (f :: s).length ≤ 1048576) (hr : ∀ r ∈ f :: s, r.length ≤ 1048576) : ∀ (d k i : Nat) (o : List Int), i + d = f.length → o.length ≤ i → d * 1048580 + 2097160 < k → spec_InAll.l0 k (f :: s) o i = some (o ++ (f.drop i).filter (allb (f :: s))) := by
  have hf := hr f List.mem_cons_self
  intro d
  induction d with
  | zero =>
    intro k i o hd ho hk
    obtain ⟨k, rfl⟩ := rounds_succ hk
    obtain ⟨k, rfl⟩ := rounds_succ (show 0 < k by omega)
    simp only [spec_InAll.l0, spec_InAll.j1]; rw [if_pos (by simp only [List.length_cons]; omega), if_pos (by simp only [List.length_cons]; omega), show rd_L1 (f :: s) 0 = f from rfl, if_neg (by simp; omega), List.drop_eq_nil_of_le (by omega)]; simp
  | succ d ih =>
    intro k i o hd ho hk
    obtain ⟨k, rfl⟩ := rounds_succ hk
    obtain ⟨k, rfl⟩ := rounds_succ (show 0 < k by omega)
    have e : f.drop i = rd f i :: f.drop (i + 1) := by rw [rd_nat f i (by omega)]; exact List.drop_eq_getElem_cons _
    have hmem : rd f i ∈ f := by rw [rd_nat f i (by omega)]; exact List.getElem_mem _
    simp only [spec_InAll.l0, spec_InAll.j1]; rw [if_pos (by simp only [List.length_cons]; omega), if_pos (by simp only [List.length_cons]; omega), show rd_L1 (f :: s) 0 = f from rfl, if_pos (by simp; omega), show (1 : Int) = ((1 : Nat) : Int) from rfl, spec_InAll_l1 f s hl hr o i (by omega) (by omega) s.length k 1 true (by omega) (by simp only [List.length_cons]; omega) (by simp only [List.length_cons] at hl; omega), e]
    have hb : (true && ((f :: s).drop 1).all (fun x => decide (rd f i ∈ x))) = allb (f :: s) (rd f i) := by simp [allb, hmem]
    simp only [List.length_cons] at hl
    rw [hb]
    have hk2 : d * 1048580 + 2097160 < k - s.length - 1 := by
      rw [Nat.succ_mul] at hk
      generalize d * 1048580 = D at hk ⊢
      omega
    clear hk
    cases hq : allb (f :: s) (rd f i) with
    | true =>
      rw [if_pos rfl, ih _ (i + 1) _ (by omega) (by rw [List.length_append, List.length_singleton]; omega) hk2, List.filter_cons_of_pos hq, List.append_assoc]; rfl
    | false =>
      rw [if_neg (by simp), ih _ (i + 1) _ (by omega) (by omega) hk2, List.filter_cons_of_neg (by simp [hq])]
theorem spec_InAll_eq (l : List (List Int)) (hl : l.length ≤ 1048576) (hr : ∀ r ∈ l, r.length ≤ 1048576) (k : Nat) (hk : 1048576 * 1048580 + 2097160 < k) : spec_InAll.f k l = some (inA l) := by
  unfold spec_InAll.f
  cases l with
  | nil =>
    obtain ⟨k, rfl⟩ := rounds_succ hk
    obtain ⟨k, rfl⟩ := rounds_succ (show 0 < k by omega)
    simp only [spec_InAll.l0, spec_InAll.j1]; rw [if_neg (by simp), if_neg (by simp)]; rfl
  | cons f s =>
    have hf := hr f List.mem_cons_self
    rw [show (0 : Int) = ((0 : Nat) : Int) from rfl, spec_InAll_l0 f s hl hr f.length k 0 [] (by omega) (by simp) (Nat.lt_of_le_of_lt (Nat.add_le_add_right (Nat.mul_le_mul_right _ hf) _) hk)]
    rfl
theorem markSS_ends (A : List (List Int)) (h1 : A.length ≤ 1048576) (h2 : ∀ r ∈ A, r.length ≤ 1048576) (k : Nat) (hk : A.length + 1048576 < k) : ∃ m y, laws_markIntSS.f k A 1 = some (m, y) ∧ 0 ≤ m := by
  obtain ⟨m, y, e, h⟩ := markSS_l 1048576 (by omega) A.length h1 A.length k 0 A 1 rfl (fun j _ => by
    rw [List.getD_eq_getElem?_getD]
    by_cases hj : j < A.length
    · rw [List.getElem?_eq_getElem hj, Option.getD_some]; exact h2 _ (List.getElem_mem hj)
    · rw [List.getElem?_eq_none (by omega)]; simp) (by omega) (by omega) (by omega) hk
  exact ⟨m, y, e, h.1⟩
theorem laws_markIntS_l (a0 : Int) (n : Nat) (h0 : 0 ≤ a0) (h1 : a0 + n ≤ 4611686018427387904) : ∀ (d k i : Nat) (x : List Int) (a : Int), x.length = n → a = a0 + i → (∀ j, j < i → x[j]? = some ((a0 + (j : Int)))) → i + d = n → d < k →
    laws_markIntS.l0 k x a i = some (a0 + n, (List.range n).map fun (j : Nat) => (a0 + (j : Int))) := by
  intro d
  induction d with
  | zero =>
    intro k i x a hx ha hp hd hk
    obtain ⟨k, rfl⟩ := rounds_succ hk
    simp only [laws_markIntS.l0]; rw [if_neg (by omega)]
    have : x = (List.range n).map fun (j : Nat) => (a0 + (j : Int)) := by
      refine List.ext_getElem? fun j => ?_
      by_cases hj : j < n
      · rw [hp j (by omega), List.getElem?_map, List.getElem?_range hj]; rfl
      · rw [List.getElem?_eq_none (by omega), List.getElem?_eq_none (by simp; omega)]
    rw [this, ha]; congr 2; omega
  | succ d ih =>
    intro k i x a hx ha hp hd hk
    obtain ⟨k, rfl⟩ := rounds_succ hk
    simp only [laws_markIntS.l0]; rw [if_pos (by omega), if_pos (by omega), wrs (by omega), wr (i := a + 1) (by omega) (by omega), Int.toNat_natCast]
    refine ih k (i + 1) _ _ (by simp [hx]) (by omega) ?_ (by omega) (by omega)
    intro j hj
    rw [List.getElem?_set]
    by_cases e : i = j
    · subst e; rw [if_pos rfl, if_pos (by omega), ha]
    · rw [if_neg e]; exact hp j (by omega)
theorem laws_heldIntS_l (a0 : Int) (n : Nat) (h0 : 0 ≤ a0) (h1 : a0 + n ≤ 4611686018427387904) : ∀ (d k i : Nat) (a : Int), a = a0 + i → i + d = n → d < k →
    laws_heldIntS.l0 k ((List.range n).map fun (j : Nat) => (a0 + (j : Int))) a i = some (a0 + n) := by
  intro d
  induction d with
  | zero =>
    intro k i a ha hd hk
    obtain ⟨k, rfl⟩ := rounds_succ hk
    simp only [laws_heldIntS.l0]; rw [if_neg (by simp; omega)]
    rw [ha]; congr 1; omega
  | succ d ih =>
    intro k i a ha hd hk
    obtain ⟨k, rfl⟩ := rounds_succ hk
    simp only [laws_heldIntS.l0]; rw [if_pos (by simp; omega), if_pos (by omega), wrs (by omega), wr (i := a + 1) (by omega) (by omega)]
    rw [if_pos (by rw [rd_nat _ _ (by simp; omega)]; simp [ha])]
    exact ih k (i + 1) _ (by omega) (by omega) (by omega)
theorem laws_markIntS_held (l : List Int) (a : Int) (h0 : 0 ≤ a) (h1 : a + l.length ≤ 4611686018427387904) : ∃ m, ∀ k, l.length < k → laws_markIntS.f k l a = some (a + l.length, m) ∧ laws_heldIntS.f k m a = some (a + l.length) :=
  ⟨(List.range l.length).map fun (j : Nat) => (a + (j : Int)), fun k hk => ⟨laws_markIntS_l a l.length h0 h1 l.length k 0 l a rfl (by omega) (fun j hj => by omega) (by omega) hk, laws_heldIntS_l a l.length h0 h1 l.length k 0 a (by omega) (by omega) hk⟩⟩
def FnExactInAllPure : Prop := ∀ (l0 : List (List Int)), l0.length ≤ maxLen → (∀ r ∈ l0, r.length ≤ maxLen ∧ ∀ n ∈ r, (Lit.int .i64 n).wf = true) → ∃ k, laws_FnExactInAll.f k l0 = some true
theorem FnExactInAll : FnExactInAllPure := by
  intro A hl hr
  refine ⟨4398046511105, ?_⟩
  unfold laws_FnExactInAll.f
  obtain ⟨t, ht, hb⟩ := szSS_eq A hl (fun r h => (hr r h).1) 4398046511105 (by omega)
  rw [ht, Option.bind_some]
  by_cases h0 : t < 0
  · rw [if_pos h0]
  · rw [if_neg h0]
    obtain ⟨h1, h2⟩ := hb (by omega)
    have hv := inA_len A h2
    obtain ⟨mg, my, hmg, hmg0⟩ := markSS_ends A h1 h2 4398046511105 (by omega)
    obtain ⟨mm, hmm⟩ := laws_markIntS_held (inA A) 1 (by omega) (by omega)
    have n1 : ¬ mg < 0 := by omega
    have n2 : ¬ ((1 : Int) + ((inA A).length : Int) < 0) := by omega
    have g1 : ∀ j, laws_toIntSS.f (4398046511104 + j) A = some A := fun j => laws_toIntSS_eq A h1 h2 _ (by omega)
    have g3 : ∀ j, spec_InAll.f (4398046511104 + j) A = some (inA A) := fun j => spec_InAll_eq A h1 h2 _ (by omega)
    have g4 : ∀ j, impl_InAll.f (4398046511104 + j) A = some (inA A) := fun j => impl_InAll_eq A h1 h2 _ (by omega)
    have g5 : ∀ j, laws_eqIntSS.f (4398046511104 + j) A A = some true := fun j => by rw [laws_eqIntSS_eq A A (by omega) h2 _ (by omega)]; simp
    have g6 : ∀ j, laws_eqIntS.f (4398046511104 + j) (inA A) (inA A) = some true := fun j => by rw [laws_eqIntS_eq _ _ (by omega) _ (by omega)]; simp
    have g7 : ∀ j, laws_markIntS.f (4398046511104 + j) (inA A) 1 = some (1 + ((inA A).length : Int), mm) := fun j => (hmm _ (by omega)).1
    have g8 : ∀ j, laws_heldIntS.f (4398046511104 + j) mm 1 = some (1 + ((inA A).length : Int)) := fun j => (hmm _ (by omega)).2
    have q1 := g1 1; have q3 := g3 1; have q4 := g4 1; have q5 := g5 1; have q6 := g6 1
    have p1 := g1 0; have p4 := g4 0; have p6 := g6 0; have p7 := g7 0; have p8 := g8 0
    simp only [Nat.reduceAdd, Nat.add_zero] at q1 q3 q4 q5 q6 p1 p4 p6 p7 p8
    simp only [q1, q3, q4, q5, q6, hmg, n1, laws_FnExactInAll.j0, p1, p4, p6, p7, p8, n2, Option.bind_some, if_true, if_false, Bool.not_true, Bool.false_eq_true]
end Go.Proofs.Ytomnploadmbagaa.Pure
