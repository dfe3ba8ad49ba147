/- The program's AddAttack answers as the reference's does, for all graphs and pairs of numbers, leaves its argument alone and hands back memory of its own. Conditions: none. -/
import Derived.Test.YtpdpampmbdgofaaGFnExactAddAttackx7
import Derived.OpenShut
namespace Go.Proofs.Ytpdpampmbdgofaa.Pure
open Go.RowKit Go.Proofs.Ytpdpampmbdgofaa.GFnExactAddAttack Go.Proofs.YtpdpampmbdgofaaW.PrintWords Go.Proofs.YtpdpampmbdgofaaW.PrintLast
theorem wr {i : Int} (h0 : -9223372036854775808 ≤ i) (h : i ≤ 9223372036854775807) : wrap64 i = i := by unfold wrap64; omega
theorem wrs {i : Nat} (h : i < 9223372036854775807) : wrap64 ((i : Int) + 1) = ((i + 1 : Nat) : Int) := by unfold wrap64; omega
theorem rd_nat (l : List Int) (i : Nat) (h : i < l.length) : rd l (i : Int) = l[i] := by simp [rd, h]
theorem rd_some (l : List Int) (i : Nat) (h : i < l.length) : l[i]? = some (rd l (i : Int)) := by rw [rd_nat l i h, List.getElem?_eq_getElem h]
theorem rounds_succ {d k : Nat} (h : d < k) : ∃ m, k = m + 1 := ⟨k - 1, by omega⟩
theorem rdL_nat (l : List (List Int)) (i : Nat) (h : i < l.length) : rd_L1 l (i : Int) = l[i] := by simp [rd_L1, h]
theorem rdL_some (l : List (List Int)) (i : Nat) (h : i < l.length) : l[i]? = some (rd_L1 l (i : Int)) := by rw [rdL_nat l i h, List.getElem?_eq_getElem h]
theorem rdL_mem (l : List (List Int)) (i : Nat) (h : i < l.length) : rd_L1 l (i : Int) ∈ l := by rw [rdL_nat l i h]; exact List.getElem_mem h
theorem rdL_drop (l : List (List Int)) (i : Nat) (h : i < l.length) : l.drop i = rd_L1 l (i : Int) :: l.drop (i + 1) := by rw [rdL_nat l i h]; exact List.drop_eq_getElem_cons h
theorem szSS_l (l : List (List Int)) (hl : l.length ≤ 1048576) (hr : ∀ r ∈ l, r.length ≤ maxLen) : ∀ (d k i : Nat) (a : Int), 0 ≤ a → a ≤ 1048576 → i + d = l.length → d < k → ∃ t, laws_szIntSS.l0 k l a i = some t ∧ t ≤ 1048576 ∧ (0 ≤ t → ∀ r ∈ l.drop i, r.length ≤ 1048576) := by
  intro d
  induction d with
  | zero =>
    intro k i a h0 h1 hd hk
    obtain ⟨k, rfl⟩ := rounds_succ hk
    simp only [laws_szIntSS.l0]; rw [if_neg (by omega)]
    exact ⟨a, rfl, h1, fun _ r hr => by rw [List.drop_eq_nil_of_le (by omega)] at hr; cases hr⟩
  | succ d ih =>
    intro k i a h0 h1 hd hk
    obtain ⟨k, rfl⟩ := rounds_succ hk
    have hm := hr _ (rdL_mem l i (by omega))
    unfold maxLen at hm
    simp only [laws_szIntSS.l0]; rw [if_pos (by omega), if_pos (by omega), wrs (by omega), rdL_drop l i (by omega)]
    generalize rd_L1 l (i : Int) = r at hm ⊢
    unfold laws_szIntS.f
    rw [wr (i := a - (r.length : Int)) (by omega) (by omega)]
    by_cases h : a - (r.length : Int) < 0
    · rw [if_pos h, Option.bind_some, if_pos (by omega)]
      exact ⟨-1, rfl, by omega, fun h => by omega⟩
    · rw [if_neg h, Option.bind_some, if_neg h]
      obtain ⟨t, ht, h2, h3⟩ := ih k (i + 1) _ (show 0 ≤ a - (r.length : Int) by omega) (by omega) (by omega) (by omega)
      refine ⟨t, ht, h2, fun h4 r' hr' => ?_⟩
      rcases List.mem_cons.1 hr' with e | e
      · subst e; omega
      · exact h3 h4 r' e
theorem szSS_eq (l : List (List Int)) (hl : l.length ≤ maxLen) (hr : ∀ r ∈ l, r.length ≤ maxLen) (k : Nat) (hk : l.length < k ∨ 1048576 < k) : ∃ t, laws_szIntSS.f k l 1048576 = some t ∧ (0 ≤ t → l.length ≤ 1048576 ∧ ∀ r ∈ l, r.length ≤ 1048576) := by
  unfold maxLen at hl
  unfold laws_szIntSS.f
  rw [wr (i := 1048576 - (l.length : Int)) (by omega) (by omega)]
  by_cases h : 1048576 - (l.length : Int) < 0
  · rw [if_pos h]; exact ⟨-1, rfl, fun h => by omega⟩
  · rw [if_neg h]
    obtain ⟨t, ht, _, h3⟩ := szSS_l l (by omega) hr l.length k 0 _ (show 0 ≤ 1048576 - (l.length : Int) by omega) (by omega) (by omega) (by omega)
    exact ⟨t, ht, fun h4 => ⟨by omega, fun r hr => h3 h4 r (by simpa using hr)⟩⟩
theorem szG_eq (n : Int) (l : List (List Int)) (hl : l.length ≤ maxLen) (hr : ∀ r ∈ l, r.length ≤ maxLen) (k : Nat) (hk : l.length < k ∨ 1048576 < k) : ∃ t, laws_szGraph.f k n l 1048576 = some t ∧ (0 ≤ t → l.length ≤ 1048576 ∧ ∀ r ∈ l, r.length ≤ 1048576) := by
  obtain ⟨t, ht, h⟩ := szSS_eq l hl hr k hk
  unfold laws_szGraph.f
  rw [ht, Option.bind_some]
  by_cases h0 : t < 0
  · rw [if_pos h0]; exact ⟨-1, rfl, fun h => by omega⟩
  · rw [if_neg h0]; exact ⟨t, rfl, h⟩
theorem laws_toIntS_l (l : List Int) (hl : l.length ≤ 1048576) : ∀ (d k i : Nat) (xs : List Int), xs.length = l.length → (∀ j, j < i → xs[j]? = l[j]?) → i + d = l.length → d < k → laws_toIntS.l0 k l xs i = some l := by
  intro d
  induction d with
  | zero =>
    intro k i xs hx hp hd hk
    obtain ⟨k, rfl⟩ := rounds_succ hk
    simp only [laws_toIntS.l0]; rw [if_neg (by omega)]
    congr 1
    refine List.ext_getElem? fun j => ?_
    by_cases hj : j < i
    · exact hp j hj
    · rw [List.getElem?_eq_none (by omega), List.getElem?_eq_none (by omega)]
  | succ d ih =>
    intro k i xs hx hp hd hk
    obtain ⟨k, rfl⟩ := rounds_succ hk
    simp only [laws_toIntS.l0]; rw [if_pos (by omega), if_pos (by omega), if_pos (by omega), wrs (by omega), Int.toNat_natCast]
    refine ih k (i + 1) _ (by simp [hx]) ?_ (by omega) (by omega)
    intro j hj
    rw [List.getElem?_set]
    by_cases e : i = j
    · subst e; rw [if_pos rfl, if_pos (by omega), rd_some l i (by omega)]
    · rw [if_neg e]; exact hp j (by omega)
theorem laws_toIntS_eq (l : List Int) (hl : l.length ≤ 1048576) (k : Nat) (hk : l.length < k) : laws_toIntS.f k l = some l := by
  unfold laws_toIntS.f
  rw [if_pos (by omega), if_pos (by omega)]
  exact laws_toIntS_l l hl l.length k 0 _ (by simp) (fun j hj => by omega) (by omega) hk
theorem toSS_l (l : List (List Int)) (hl : l.length ≤ 1048576) (hr : ∀ r ∈ l, r.length ≤ 1048576) : ∀ (d k i : Nat) (xs : List (List Int)), xs.length = l.length → (∀ j, j < i → xs[j]? = l[j]?) → i + d = l.length → d + 1048576 < k → laws_toIntSS.l0 k l xs i = some l := by
  intro d
  induction d with
  | zero =>
    intro k i xs hx hp hd hk
    obtain ⟨k, rfl⟩ := rounds_succ hk
    simp only [laws_toIntSS.l0]; rw [if_neg (by omega)]
    congr 1
    refine List.ext_getElem? fun j => ?_
    by_cases hj : j < i
    · exact hp j hj
    · rw [List.getElem?_eq_none (by omega), List.getElem?_eq_none (by omega)]
  | succ d ih =>
    intro k i xs hx hp hd hk
    obtain ⟨k, rfl⟩ := rounds_succ hk
    have hm := hr _ (rdL_mem l i (by omega))
    simp only [laws_toIntSS.l0]; rw [if_pos (by omega), if_pos (by omega), laws_toIntS_eq _ hm k (by omega), Option.bind_some, if_pos (by omega), wrs (by omega), Int.toNat_natCast]
    refine ih k (i + 1) _ (by simp [hx]) ?_ (by omega) (by omega)
    intro j hj
    rw [List.getElem?_set]
    by_cases e : i = j
    · subst e; rw [if_pos rfl, if_pos (by omega), rdL_some l i (by omega)]
    · rw [if_neg e]; exact hp j (by omega)
theorem laws_toIntSS_eq (l : List (List Int)) (hl : l.length ≤ 1048576) (hr : ∀ r ∈ l, r.length ≤ 1048576) (k : Nat) (hk : 2097152 < k) : laws_toIntSS.f k l = some l := by
  unfold laws_toIntSS.f
  rw [if_pos (by omega), if_pos (by omega)]
  exact toSS_l l hl hr l.length k 0 _ (by simp) (fun j hj => by omega) (by omega) (by omega)
theorem laws_toGraph_eq (n : Int) (l : List (List Int)) (hl : l.length ≤ 1048576) (hr : ∀ r ∈ l, r.length ≤ 1048576) (k : Nat) (hk : 2097152 < k) : laws_toGraph.f k n l = some (n, l) := by
  unfold laws_toGraph.f
  rw [laws_toIntSS_eq l hl hr k hk, Option.bind_some]
theorem laws_eqIntS_l (a b : List Int) (hl : a.length ≤ 1099511627776) (hab : a.length = b.length) : ∀ (d k i : Nat), (∀ j, j < i → a[j]? = b[j]?) → i + d = a.length → d < k → laws_eqIntS.l0 k a b i = some (decide (a = b)) := by
  intro d
  induction d with
  | zero =>
    intro k i hp hd hk
    obtain ⟨k, rfl⟩ := rounds_succ hk
    simp only [laws_eqIntS.l0]; rw [if_neg (by omega)]
    have : a = b := by
      refine List.ext_getElem? fun j => ?_
      by_cases hj : j < i
      · exact hp j hj
      · rw [List.getElem?_eq_none (by omega), List.getElem?_eq_none (by omega)]
    simp [this]
  | succ d ih =>
    intro k i hp hd hk
    obtain ⟨k, rfl⟩ := rounds_succ hk
    simp only [laws_eqIntS.l0]; rw [if_pos (by omega), if_pos (by omega), if_pos (by omega)]
    by_cases e : rd a i = rd b i
    · rw [if_pos e, wrs (by omega)]
      refine ih k (i + 1) ?_ (by omega) (by omega)
      intro j hj
      by_cases e' : j = i
      · subst e'; rw [rd_some a j (by omega), rd_some b j (by omega), e]
      · exact hp j (by omega)
    · rw [if_neg e]
      have : ¬ a = b := fun h => e (by rw [h])
      simp [this]
theorem laws_eqIntS_eq (a b : List Int) (hl : a.length ≤ 1099511627776) (k : Nat) (hk : a.length < k) : laws_eqIntS.f k a b = some (decide (a = b)) := by
  unfold laws_eqIntS.f
  by_cases h : a.length = b.length
  · rw [if_pos (by omega)]
    exact laws_eqIntS_l a b hl h a.length k 0 (fun j hj => by omega) (by omega) hk
  · rw [if_neg (by omega)]
    have : ¬ a = b := fun e => h (by rw [e])
    simp [this]
theorem eqSS_l (a b : List (List Int)) (hl : a.length ≤ 1099511627776) (hr : ∀ r ∈ a, r.length ≤ 1048576) (hab : a.length = b.length) : ∀ (d k i : Nat), (∀ j, j < i → a[j]? = b[j]?) → i + d = a.length → d + 1048576 < k → laws_eqIntSS.l0 k a b i = some (decide (a = b)) := by
  intro d
  induction d with
  | zero =>
    intro k i hp hd hk
    obtain ⟨k, rfl⟩ := rounds_succ hk
    simp only [laws_eqIntSS.l0]; rw [if_neg (by omega)]
    have : a = b := by
      refine List.ext_getElem? fun j => ?_
      by_cases hj : j < i
      · exact hp j hj
      · rw [List.getElem?_eq_none (by omega), List.getElem?_eq_none (by omega)]
    simp [this]
  | succ d ih =>
    intro k i hp hd hk
    obtain ⟨k, rfl⟩ := rounds_succ hk
    have hm := hr _ (rdL_mem a i (by omega))
    simp only [laws_eqIntSS.l0]; rw [if_pos (by omega), if_pos (by omega), if_pos (by omega), laws_eqIntS_eq _ _ (by omega) k (by omega), Option.bind_some]
    by_cases e : rd_L1 a i = rd_L1 b i
    · rw [if_pos (by simp [e]), wrs (by omega)]
      refine ih k (i + 1) ?_ (by omega) (by omega)
      intro j hj
      by_cases e' : j = i
      · subst e'; rw [rdL_some a j (by omega), rdL_some b j (by omega), e]
      · exact hp j (by omega)
    · rw [if_neg (by simp [e])]
      have : ¬ a = b := fun h => e (by rw [h])
      simp [this]
theorem laws_eqIntSS_eq (a b : List (List Int)) (hl : a.length ≤ 1099511627776) (hr : ∀ r ∈ a, r.length ≤ 1048576) (k : Nat) (hk : a.length + 1048576 < k) : laws_eqIntSS.f k a b = some (decide (a = b)) := by
  unfold laws_eqIntSS.f
  by_cases h : a.length = b.length
  · rw [if_pos (by omega)]
    exact eqSS_l a b hl hr h a.length k 0 (fun j hj => by omega) (by omega) hk
  · rw [if_neg (by omega)]
    have : ¬ a = b := fun e => h (by rw [e])
    simp [this]
theorem laws_eqGraph_eq (n m : Int) (a b : List (List Int)) (hl : a.length ≤ 1099511627776) (hr : ∀ r ∈ a, r.length ≤ 1048576) (k : Nat) (hk : a.length + 1048576 < k) : laws_eqGraph.f k n a m b = some (decide (n = m ∧ a = b)) := by
  unfold laws_eqGraph.f
  by_cases h : n = m
  · rw [if_pos h, laws_eqIntSS_eq a b hl hr k hk, Option.bind_some]
    by_cases e : a = b <;> simp [h, e]
  · rw [if_neg h]; simp [h]
theorem laws_markIntS_e (a0 : Int) (n : Nat) (h0 : 0 ≤ a0) (h1 : a0 + n ≤ 4611686018427387904) : ∀ (d k i : Nat) (x : List Int) (a : Int), x.length = n → a = a0 + i → i + d = n → d < k →
    ∃ m, laws_markIntS.l0 k x a i = some (a0 + n, m) := by
  intro d
  induction d with
  | zero =>
    intro k i x a hx ha hd hk
    obtain ⟨k, rfl⟩ := rounds_succ hk
    simp only [laws_markIntS.l0]; rw [if_neg (by omega)]
    exact ⟨x, by rw [ha]; congr 2; omega⟩
  | succ d ih =>
    intro k i x a hx ha hd hk
    obtain ⟨k, rfl⟩ := rounds_succ hk
    simp only [laws_markIntS.l0]; rw [if_pos (by omega), if_pos (by omega), wrs (by omega), wr (i := a + 1) (by omega) (by omega), Int.toNat_natCast]
    exact ih k (i + 1) _ _ (by simp [hx]) (by omega) (by omega) (by omega)
theorem laws_markIntS_ends (l : List Int) (a : Int) (h0 : 0 ≤ a) (h1 : a + l.length ≤ 4611686018427387904) (k : Nat) (hk : l.length < k) : ∃ m, laws_markIntS.f k l a = some (a + l.length, m) :=
  laws_markIntS_e a l.length h0 h1 l.length k 0 l a rfl (by omega) (by omega) hk
theorem markSS_l (B : Nat) (hB : B ≤ 1048576) (N : Nat) (hN : N ≤ 1048576) : ∀ (d k i : Nat) (x : List (List Int)) (a : Int), x.length = N → (∀ j, i ≤ j → (x.getD j []).length ≤ B) → 0 ≤ a → a ≤ 1 + (i * B : Nat) → i + d = N → d + B < k → ∃ m y, laws_markIntSS.l0 k x a i = some (m, y) ∧ 0 ≤ m ∧ m ≤ 1 + (N * B : Nat) := by
  intro d
  induction d with
  | zero =>
    intro k i x a hx hr h0 h1 hd hk
    obtain ⟨k, rfl⟩ := rounds_succ hk
    simp only [laws_markIntSS.l0]; rw [if_neg (by omega)]
    have hiN : i = N := by omega
    exact ⟨a, x, rfl, h0, by rw [← hiN]; exact h1⟩
  | succ d ih =>
    intro k i x a hx hr h0 h1 hd hk
    obtain ⟨k, rfl⟩ := rounds_succ hk
    have hi := hr i (Nat.le_refl _)
    have hib : i * B ≤ 1048576 * 1048576 := Nat.mul_le_mul (by omega) hB
    obtain ⟨m, hm⟩ := laws_markIntS_ends (x.getD i []) a h0 (by omega) k (by omega)
    simp only [laws_markIntSS.l0]; rw [if_pos (by omega), if_pos (by omega), Int.toNat_natCast, hm, Option.bind_some, wrs (by omega)]
    refine ih k (i + 1) _ _ (by simp [hx]) ?_ (by omega) (by rw [Nat.succ_mul]; omega) (by omega) (by omega)
    intro j hj
    have : (x.set i m).getD j [] = x.getD j [] := by
      simp only [List.getD_eq_getElem?_getD]
      rw [List.getElem?_set_ne (by omega)]
    rw [this]
    exact hr j (by omega)
theorem markG_ends (n : Int) (A : List (List Int)) (h1 : A.length ≤ 1048576) (h2 : ∀ r ∈ A, r.length ≤ 1048576) (k : Nat) (hk : A.length + 1048576 < k) : ∃ m, laws_markGraph.f k n A 1 = some m ∧ 0 ≤ m ∧ m ≤ 1099511627777 := by
  obtain ⟨m, y, e, h⟩ := markSS_l 1048576 (by omega) A.length h1 A.length k 0 A 1 rfl (fun j _ => by
    rw [List.getD_eq_getElem?_getD]
    by_cases hj : j < A.length
    · rw [List.getElem?_eq_getElem hj, Option.getD_some]; exact h2 _ (List.getElem_mem hj)
    · rw [List.getElem?_eq_none (by omega)]; simp) (by omega) (by omega) (by omega) hk
  have hb : A.length * 1048576 ≤ 1048576 * 1048576 := Nat.mul_le_mul_right _ h1
  refine ⟨m, ?_, h.1, by omega⟩
  unfold laws_markGraph.f laws_markIntSS.f
  rw [show (0 : Int) = ((0 : Nat) : Int) from rfl, e, Option.bind_some]
theorem laws_markIntS_l (a0 : Int) (n : Nat) (h0 : 0 ≤ a0) (h1 : a0 + n ≤ 4611686018427387904) : ∀ (d k i : Nat) (x : List Int) (a : Int), x.length = n → a = a0 + i → (∀ j, j < i → x[j]? = some ((a0 + (j : Int)))) → i + d = n → d < k →
    laws_markIntS.l0 k x a i = some (a0 + n, (List.range n).map fun (j : Nat) => (a0 + (j : Int))) := by
  intro d
  induction d with
  | zero =>
    intro k i x a hx ha hp hd hk
    obtain ⟨k, rfl⟩ := rounds_succ hk
    simp only [laws_markIntS.l0]; rw [if_neg (by omega)]
    have : x = (List.range n).map fun (j : Nat) => (a0 + (j : Int)) := by
      refine List.ext_getElem? fun j => ?_
      by_cases hj : j < n
      · rw [hp j (by omega), List.getElem?_map, List.getElem?_range hj]; rfl
      · rw [List.getElem?_eq_none (by omega), List.getElem?_eq_none (by simp; omega)]
    rw [this, ha]; congr 2; omega
  | succ d ih =>
    intro k i x a hx ha hp hd hk
    obtain ⟨k, rfl⟩ := rounds_succ hk
    simp only [laws_markIntS.l0]; rw [if_pos (by omega), if_pos (by omega), wrs (by omega), wr (i := a + 1) (by omega) (by omega), Int.toNat_natCast]
    refine ih k (i + 1) _ _ (by simp [hx]) (by omega) ?_ (by omega) (by omega)
    intro j hj
    rw [List.getElem?_set]
    by_cases e : i = j
    · subst e; rw [if_pos rfl, if_pos (by omega), ha]
    · rw [if_neg e]; exact hp j (by omega)
theorem laws_heldIntS_l (a0 : Int) (n : Nat) (h0 : 0 ≤ a0) (h1 : a0 + n ≤ 4611686018427387904) : ∀ (d k i : Nat) (a : Int), a = a0 + i → i + d = n → d < k →
    laws_heldIntS.l0 k ((List.range n).map fun (j : Nat) => (a0 + (j : Int))) a i = some (a0 + n) := by
  intro d
  induction d with
  | zero =>
    intro k i a ha hd hk
    obtain ⟨k, rfl⟩ := rounds_succ hk
    simp only [laws_heldIntS.l0]; rw [if_neg (by simp; omega)]
    rw [ha]; congr 1; omega
  | succ d ih =>
    intro k i a ha hd hk
    obtain ⟨k, rfl⟩ := rounds_succ hk
    simp only [laws_heldIntS.l0]; rw [if_pos (by simp; omega), if_pos (by omega), wrs (by omega), wr (i := a + 1) (by omega) (by omega)]
    rw [if_pos (by rw [rd_nat _ _ (by simp; omega)]; simp [ha])]
    exact ih k (i + 1) _ (by omega) (by omega) (by omega)
theorem laws_markIntS_held (l : List Int) (a : Int) (h0 : 0 ≤ a) (h1 : a + l.length ≤ 4611686018427387904) : ∃ m, ∀ k, l.length < k → laws_markIntS.f k l a = some (a + l.length, m) ∧ laws_heldIntS.f k m a = some (a + l.length) :=
  ⟨(List.range l.length).map fun (j : Nat) => (a + (j : Int)), fun k hk => ⟨laws_markIntS_l a l.length h0 h1 l.length k 0 l a rfl (by omega) (fun j hj => by omega) (by omega) hk, laws_heldIntS_l a l.length h0 h1 l.length k 0 a (by omega) (by omega) hk⟩⟩
theorem markSS_held_l (B : Nat) (rest : List (List Int)) : ∀ (pre : List (List Int)) (a : Int), pre.length + rest.length ≤ 2000000 → (∀ r ∈ rest, r.length ≤ B) → 0 ≤ a → a + (rest.length * B : Nat) ≤ 4611686018427387904 →
    ∃ (t : Int) (ys : List (List Int)), a ≤ t ∧ t ≤ a + (rest.length * B : Nat) ∧ ys.length = rest.length ∧ ∀ k, rest.length + B < k → laws_markIntSS.l0 k (pre ++ rest) a (pre.length : Int) = some (t, pre ++ ys) ∧ laws_heldIntSS.l0 k (pre ++ ys) a (pre.length : Int) = some t := by
  induction rest with
  | nil =>
    intro pre a _ _ h0 _
    refine ⟨a, [], by omega, by simp, rfl, fun k hk => ?_⟩
    obtain ⟨k, rfl⟩ := rounds_succ hk
    rw [laws_markIntSS.l0, laws_heldIntSS.l0, if_neg (by simp), if_neg (by simp)]
    exact ⟨rfl, rfl⟩
  | cons r rest ih =>
    intro pre a hp hr h0 h1
    rw [List.length_cons] at hp h1
    have hrb := hr r List.mem_cons_self
    rw [Nat.succ_mul] at h1
    obtain ⟨m, hm⟩ := laws_markIntS_held r a h0 (by omega)
    obtain ⟨t, ys, t0, t1, hy, hk⟩ := ih (pre ++ [m]) (a + r.length) (by simp; omega) (fun x hx => hr x (List.mem_cons_of_mem _ hx)) (by omega) (by omega)
    refine ⟨t, m :: ys, by omega, by rw [List.length_cons, Nat.succ_mul]; omega, by simp [hy], fun k hk2 => ?_⟩
    rw [List.length_cons] at hk2
    obtain ⟨k, rfl⟩ := rounds_succ hk2
    obtain ⟨m1, m2⟩ := hm k (by omega)
    obtain ⟨q1, q2⟩ := hk k (by omega)
    have hlen : ((pre ++ [m]).length : Int) = ((pre.length + 1 : Nat) : Int) := by simp
    rw [hlen] at q1 q2
    rw [List.append_assoc, List.singleton_append] at q1
    rw [List.append_assoc, List.singleton_append] at q2
    constructor
    · rw [laws_markIntSS.l0, if_pos (by simp; omega), if_pos (by omega), Int.toNat_natCast]
      rw [show (pre ++ r :: rest).getD pre.length [] = r by simp [List.getD_eq_getElem?_getD], m1, Option.bind_some, wrs (by omega)]
      rw [show (pre ++ r :: rest).set pre.length m = pre ++ m :: rest by simp]
      simpa [List.append_assoc] using q1
    · rw [laws_heldIntSS.l0, if_pos (by simp; omega), if_pos (by omega)]
      rw [show rd_L1 (pre ++ m :: ys) (pre.length : Int) = m by rw [rdL_nat _ _ (by simp)]; simp, m2, Option.bind_some, if_neg (by omega), wrs (by omega)]
      simpa [List.append_assoc] using q2
theorem markSS_held (l : List (List Int)) (hl : l.length ≤ 1048576) (hr : ∀ r ∈ l, r.length ≤ 1048576) : ∃ (t : Int) (y : List (List Int)), 1 ≤ t ∧ ∀ k, l.length + 1048576 < k → laws_markIntSS.f k l 1 = some (t, y) ∧ laws_heldIntSS.f k y 1 = some t := by
  have hb : l.length * 1048576 ≤ 1048576 * 1048576 := Nat.mul_le_mul_right _ hl
  obtain ⟨t, y, h1, _, _, h3⟩ := markSS_held_l 1048576 l [] 1 (by simp; omega) hr (by omega) (by omega)
  exact ⟨t, y, h1, fun k hk => h3 k hk⟩
def okE (w : Int) (p : List Int) : Bool := decide (p.length = 2 ∧ (0 ≤ rd p 0 ∧ rd p 0 ≤ w) ∧ (0 ≤ rd p 1 ∧ rd p 1 ≤ w))
def lexlt (p q : List Int) : Bool := decide (rd p 0 < rd q 0 ∨ (rd p 0 = rd q 0 ∧ rd p 1 < rd q 1))
def gl (w : Int) : Option (List Int) → List (List Int) → Bool
  | _, [] => true
  | prev, p :: R => okE w p && (match prev with | none => true | some q => lexlt q p) && gl w (some p) R
def isG (n : Int) (A : List (List Int)) : Bool := decide (0 ≤ n ∧ n ≤ 10) && gl (n - 1) none A
theorem gl_ok (w : Int) (R : List (List Int)) : ∀ prev, gl w prev R = true → ∀ p ∈ R, okE w p = true := by
  induction R with
  | nil => intro prev _ p hp; cases hp
  | cons q R ih =>
    intro prev h p hp
    simp only [gl, Bool.and_eq_true] at h
    rcases List.mem_cons.1 hp with e | e
    · rw [e]; exact h.1.1
    · exact ih _ h.2 p e
theorem isG_ok {n : Int} {A : List (List Int)} (h : isG n A = true) : (0 ≤ n ∧ n ≤ 10) ∧ ∀ p ∈ A, p.length = 2 ∧ (0 ≤ rd p 0 ∧ rd p 0 < n) ∧ (0 ≤ rd p 1 ∧ rd p 1 < n) := by
  unfold isG at h
  simp only [Bool.and_eq_true, decide_eq_true_eq] at h
  refine ⟨h.1, fun p hp => ?_⟩
  have := gl_ok _ _ _ h.2 p hp
  unfold okE at this
  have := of_decide_eq_true this
  omega
def prevOf (A : List (List Int)) (i : Nat) : Option (List Int) := if i = 0 then none else some (rd_L1 A ((i - 1 : Nat) : Int))
theorem prevOf_succ (A : List (List Int)) (i : Nat) : prevOf A (i + 1) = some (rd_L1 A (i : Int)) := by unfold prevOf; rw [if_neg (by omega)]; rfl
theorem impl_InRange_eq (a b c : Int) : impl_InRange.f a b c = some (decide (b ≤ a ∧ a ≤ c)) := by
  unfold impl_InRange.f; by_cases h : b ≤ a <;> simp [h]
theorem cmpi_eq (a b : Int) : cmp_Compare_int.f a b = some (if a < b then -1 else if a > b then 1 else 0) := by
  unfold cmp_Compare_int.f cmp_isNaN_int.f
  simp only [Option.bind_some, bne_self_eq_false, Bool.false_eq_true, if_false]
  split
  · rfl
  · split <;> rfl
theorem cmp2_eq (p q : List Int) (hp : p.length = 2) (hq : q.length = 2) (k : Nat) (hk : 3 < k) : ∃ t, slices_Compare_int_int.f k p q = some t ∧ (t ≥ 0 ↔ lexlt p q = false) := by
  obtain ⟨k, rfl⟩ : ∃ m, k = m + 3 := ⟨k - 3, by omega⟩
  have l1 : lexlt p q = decide (rd p 0 < rd q 0 ∨ (rd p 0 = rd q 0 ∧ rd p 1 < rd q 1)) := rfl
  rw [l1]
  unfold slices_Compare_int_int.f
  rw [slices_Compare_int_int.l0, if_pos (by omega), if_pos (by omega), if_pos (by omega), if_neg (by omega), if_pos (by omega), cmpi_eq, Option.bind_some]
  by_cases h1 : rd p 0 < rd q 0
  · rw [if_pos h1, if_neg (by omega)]; exact ⟨-1, rfl, by simp [h1]⟩
  · rw [if_neg h1]
    by_cases h2 : rd p 0 > rd q 0
    · rw [if_pos h2, if_neg (by omega)]; exact ⟨1, rfl, by simp; omega⟩
    · rw [if_neg h2, if_pos rfl, show wrap64 ((0 : Int) + 1) = 1 from wr (by omega) (by omega)]
      rw [slices_Compare_int_int.l0, if_pos (by omega), if_pos (by omega), if_pos (by omega), if_neg (by omega), if_pos (by omega), cmpi_eq, Option.bind_some]
      by_cases h3 : rd p 1 < rd q 1
      · rw [if_pos h3, if_neg (by omega)]; exact ⟨-1, rfl, by simp [h3]; omega⟩
      · rw [if_neg h3]
        by_cases h4 : rd p 1 > rd q 1
        · rw [if_pos h4, if_neg (by omega)]; exact ⟨1, rfl, by simp; omega⟩
        · rw [if_neg h4, if_pos rfl, show wrap64 ((1 : Int) + 1) = 2 from wr (by omega) (by omega)]
          rw [slices_Compare_int_int.l0, if_neg (by omega), if_neg (by omega)]
          exact ⟨0, rfl, by simp; omega⟩
theorem impl_isClaim_eq (n : Int) (A : List (List Int)) (c : Int) (h : 0 ≤ n ∧ n ≤ 10) : impl_isClaim.f n A c = some (decide (0 ≤ c ∧ c ≤ n - 1)) := by
  unfold impl_isClaim.f
  rw [wr (i := n - 1) (by omega) (by omega), impl_InRange_eq, Option.bind_some]
theorem impl_IsGraph_l (n : Int) (A : List (List Int)) (hA : A.length ≤ 2000000) (hn : 0 ≤ n ∧ n ≤ 10) : ∀ (d k i : Nat), i + d = A.length → (∀ j, j < i → (rd_L1 A (j : Int)).length = 2) → d + 4 < k →
    impl_IsGraph.l0 k A (A.length : Int) i n A = some (gl (n - 1) (prevOf A i) (A.drop i)) := by
  intro d
  induction d with
  | zero =>
    intro k i hd hp hk
    obtain ⟨k, rfl⟩ := rounds_succ hk
    simp only [impl_IsGraph.l0]; rw [if_neg (by omega), List.drop_eq_nil_of_le (by omega)]
    simp [gl]
  | succ d ih =>
    intro k i hd hp hk
    obtain ⟨k, rfl⟩ := rounds_succ hk
    simp only [impl_IsGraph.l0]; rw [if_pos (by omega), if_pos (by omega), if_pos (by omega), rdL_drop A i (by omega)]
    simp only [gl]
    generalize hq : rd_L1 A (i : Int) = p
    by_cases h2 : p.length = 2
    · rw [if_pos (by omega), if_pos (by omega), impl_isClaim_eq n A _ hn, Option.bind_some]
      by_cases h3 : 0 ≤ rd p 0 ∧ rd p 0 ≤ n - 1
      · rw [if_pos (by simp only [h3, and_self, decide_true]), if_pos (by omega), impl_isClaim_eq n A _ hn, Option.bind_some]
        by_cases h4 : 0 ≤ rd p 1 ∧ rd p 1 ≤ n - 1
        · have hok : okE (n - 1) p = true := by unfold okE; simp only [h2, h3, h4, and_self, decide_true]
          have hnext := ih k (i + 1) (by omega) (fun j hj => by
            by_cases e : j = i
            · rw [e, hq]; exact h2
            · exact hp j (by omega)) (by omega)
          rw [prevOf_succ, hq] at hnext
          rw [if_pos (by simp only [h4, and_self, decide_true])]
          simp only [hok, Bool.true_and]
          by_cases hi : i = 0
          · subst hi
            rw [if_neg (by omega)]
            rw [show wrap64 (((0 : Nat) : Int) + 1) = ((0 + 1 : Nat) : Int) from wrs (by omega), hnext]
            simp [prevOf]
          · have e1 : prevOf A i = some (rd_L1 A ((i - 1 : Nat) : Int)) := by unfold prevOf; rw [if_neg hi]
            have hl := hp (i - 1) (by omega)
            rw [e1]
            rw [if_pos (by omega), show wrap64 ((i : Int) - 1) = ((i - 1 : Nat) : Int) by rw [wr (by omega) (by omega)]; omega]
            generalize rd_L1 A ((i - 1 : Nat) : Int) = q at hl ⊢
            rw [if_pos (by omega), if_pos (by omega)]
            obtain ⟨t, ht, htt⟩ := cmp2_eq q p hl h2 k (by omega)
            rw [ht, Option.bind_some, wrs (by omega), hnext]
            by_cases h5 : t ≥ 0
            · rw [if_pos h5]; simp [htt.1 h5]
            · rw [if_neg h5]
              have : lexlt q p = true := by
                cases e : lexlt q p with
                | true => rfl
                | false => exact absurd (htt.2 e) h5
              simp [this]
        · have hok : okE (n - 1) p = false := by unfold okE; simp only [decide_eq_false_iff_not]; omega
          rw [if_neg (by simp only [decide_eq_true_eq]; omega)]; simp [hok]
      · have hok : okE (n - 1) p = false := by unfold okE; simp only [decide_eq_false_iff_not]; omega
        rw [if_neg (by simp only [decide_eq_true_eq]; omega)]; simp [hok]
    · have hok : okE (n - 1) p = false := by unfold okE; simp [h2]
      rw [if_neg (by omega)]; simp [hok]
theorem impl_IsGraph_eq2 (n : Int) (A : List (List Int)) (hA : A.length ≤ 2000000) (k : Nat) (hk : A.length + 4 < k) : impl_IsGraph.f k n A = some (isG n A) := by
  unfold impl_IsGraph.f isG
  rw [impl_InRange_eq, Option.bind_some]
  by_cases h : 0 ≤ n ∧ n ≤ 10
  · rw [if_pos (by simp [h])]
    have := impl_IsGraph_l n A hA h A.length k 0 (by omega) (fun j hj => by omega) hk
    rw [show ((0 : Nat) : Int) = 0 from rfl] at this
    rw [this]
    simp [h, prevOf]
  · rw [if_neg (by simp only [decide_eq_true_eq]; exact h)]; simp [h]
theorem impl_IsGraph_eq (n : Int) (A : List (List Int)) (hA : A.length ≤ 1048576) (k : Nat) (hk : A.length + 4 < k) : impl_IsGraph.f k n A = some (isG n A) := impl_IsGraph_eq2 n A (by omega) k hk
theorem isG_len2 {n : Int} {A : List (List Int)} (h : isG n A = true) (i : Nat) (hi : i < A.length) : (rd_L1 A (i : Int)).length = 2 := ((isG_ok h).2 _ (rdL_mem A i hi)).1
theorem spec_l1In_eq (a b c : Int) : spec_l1In.f a b c = some (decide (b ≤ a ∧ a ≤ c)) := by
  unfold spec_l1In.f; by_cases h : b ≤ a <;> simp [h]
theorem spec_IsGraph_l (n : Int) (A : List (List Int)) (hA : A.length ≤ 2000000) : ∀ (d k i : Nat), i + d = A.length → (∀ j, j < i → (rd_L1 A (j : Int)).length = 2) → 2 * d + 1 < k →
    spec_IsGraph.l0 k i n A = some (gl (wrap64 (n - 1)) (prevOf A i) (A.drop i) && decide (0 ≤ n ∧ n ≤ 10)) := by
  generalize hw : wrap64 (n - 1) = w
  intro d
  induction d with
  | zero =>
    intro k i hd hp hk
    obtain ⟨k, rfl⟩ := rounds_succ hk
    simp only [spec_IsGraph.l0]; rw [if_neg (by omega), List.drop_eq_nil_of_le (by omega), spec_l1In_eq, Option.bind_some]
    simp [gl]
  | succ d ih =>
    intro k i hd hp hk
    obtain ⟨k, rfl⟩ := rounds_succ hk
    obtain ⟨k, rfl⟩ := rounds_succ (show 0 < k by omega)
    simp only [spec_IsGraph.l0]; rw [if_pos (by omega), if_pos (by omega), hw, rdL_drop A i (by omega)]
    simp only [gl]
    generalize hq : rd_L1 A (i : Int) = p
    by_cases h2 : p.length = 2
    · rw [if_pos (by omega), if_pos (by omega), spec_l1In_eq, Option.bind_some]
      by_cases h3 : 0 ≤ rd p 0 ∧ rd p 0 ≤ w
      · rw [if_pos (by simp [h3]), if_pos (by omega), spec_l1In_eq, Option.bind_some]
        by_cases h4 : 0 ≤ rd p 1 ∧ rd p 1 ≤ w
        · have hok : okE w p = true := by unfold okE; simp [h2, h3, h4]
          have hnext := ih k (i + 1) (by omega) (fun j hj => by
            by_cases e : j = i
            · rw [e, hq]; exact h2
            · exact hp j (by omega)) (by omega)
          rw [prevOf_succ, hq] at hnext
          simp only [spec_IsGraph.j1, hok, Bool.true_and]
          rw [if_neg (by simp [h4])]
          by_cases hi : i = 0
          · subst hi
            rw [if_neg (by omega)]
            rw [show wrap64 (((0 : Nat) : Int) + 1) = ((0 + 1 : Nat) : Int) from wrs (by omega), hnext]
            simp [prevOf]
          · have e1 : prevOf A i = some (rd_L1 A ((i - 1 : Nat) : Int)) := by unfold prevOf; rw [if_neg hi]
            have hl := hp (i - 1) (by omega)
            rw [e1]
            rw [if_pos (by omega), show wrap64 ((i : Int) - 1) = ((i - 1 : Nat) : Int) by rw [wr (by omega) (by omega)]; omega]
            generalize rd_L1 A ((i - 1 : Nat) : Int) = q at hl ⊢
            rw [if_pos (by omega), if_pos (by omega), if_pos (by omega), if_pos (by omega), wrs (by omega), hnext]
            by_cases h5 : rd q 0 > rd p 0
            · rw [if_pos h5]
              have : lexlt q p = false := by unfold lexlt; simp; omega
              simp [this]
            · rw [if_neg h5]
              by_cases h6 : rd q 0 = rd p 0
              · rw [if_pos h6, if_pos (by omega), if_pos (by omega)]
                by_cases h7 : rd q 1 ≥ rd p 1
                · rw [if_pos h7]
                  have : lexlt q p = false := by unfold lexlt; simp; omega
                  simp [this]
                · rw [if_neg h7]
                  have : lexlt q p = true := by unfold lexlt; simp; omega
                  simp [this]
              · rw [if_neg h6]
                have : lexlt q p = true := by unfold lexlt; simp; omega
                simp [this]
        · have hok : okE w p = false := by unfold okE; simp; omega
          simp only [spec_IsGraph.j1, hok, Bool.false_and]
          rw [if_pos (by simp; omega)]
      · have hok : okE w p = false := by unfold okE; simp; omega
        rw [if_neg (by simp; omega)]
        simp [spec_IsGraph.j1, hok]
    · have hok : okE w p = false := by unfold okE; simp [h2]
      rw [if_neg (by omega)]
      simp [spec_IsGraph.j1, hok]
theorem spec_IsGraph_eq2 (n : Int) (A : List (List Int)) (hA : A.length ≤ 2000000) (k : Nat) (hk : 2 * A.length + 1 < k) : spec_IsGraph.f k n A = some (isG n A) := by
  have := spec_IsGraph_l n A hA A.length k 0 (by omega) (fun j hj => by omega) hk
  unfold spec_IsGraph.f isG
  rw [show ((0 : Nat) : Int) = 0 from rfl] at this
  rw [this]
  by_cases h : 0 ≤ n ∧ n ≤ 10
  · rw [wr (i := n - 1) (by omega) (by omega)]; simp [h, prevOf]
  · simp [h]
theorem spec_IsGraph_eq (n : Int) (A : List (List Int)) (hA : A.length ≤ 1048576) (k : Nat) (hk : 2 * A.length + 1 < k) : spec_IsGraph.f k n A = some (isG n A) := spec_IsGraph_eq2 n A (by omega) k hk
/-- A pair put into its place. -/
def ins (a b : Int) : List (List Int) → List (List Int)
  | [] => [[a, b]]
  | x :: R => if rd x 0 > a ∨ (rd x 0 = a ∧ rd x 1 > b) then [a, b] :: x :: R else x :: ins a b R
theorem ins_len (a b : Int) (R : List (List Int)) : (ins a b R).length = R.length + 1 := by
  induction R with
  | nil => rfl
  | cons x R ih => unfold ins; split <;> simp [ih]
theorem ins_mem (a b : Int) (R : List (List Int)) : ∀ r ∈ ins a b R, r = [a, b] ∨ r ∈ R := by
  induction R with
  | nil => intro r hr; simp [ins] at hr; exact .inl hr
  | cons x R ih =>
    intro r hr
    unfold ins at hr
    split at hr
    · rcases List.mem_cons.1 hr with e | e
      · exact .inl e
      · exact .inr e
    · rcases List.mem_cons.1 hr with e | e
      · exact .inr (by rw [e]; exact List.mem_cons_self)
      · rcases ih r e with h | h
        · exact .inl h
        · exact .inr (List.mem_cons_of_mem _ h)
def fin (n : Int) (A O : List (List Int)) : Int × List (List Int) × Bool := if (isG n A && isG n O) = true then (n, O, true) else (n, A, false)
theorem take_snoc (A : List (List Int)) (i : Nat) (h : i < A.length) : A.take i ++ [rd_L1 A (i : Int)] = A.take (i + 1) := by
  rw [rdL_nat A i h, List.take_succ_eq_append_getElem h]
theorem l4Copy_l (n : Int) (A : List (List Int)) (hA : A.length ≤ 1048576) (hr : ∀ r ∈ A, r.length ≤ 1048576) : ∀ (d k i : Nat), i + d = A.length → d < k → spec_l4Copy.l0 k i n A n (A.take i) = some (n, A) := by
  intro d
  induction d with
  | zero =>
    intro k i hd hk
    obtain ⟨k, rfl⟩ := rounds_succ hk
    simp only [spec_l4Copy.l0]; rw [if_neg (by omega), List.take_of_length_le (by omega)]
  | succ d ih =>
    intro k i hd hk
    obtain ⟨k, rfl⟩ := rounds_succ hk
    have hm := hr _ (rdL_mem A i (by omega))
    simp only [spec_l4Copy.l0]; rw [if_pos (by omega), Option.bind_some, if_pos (by omega), if_pos (by simp only [List.length_nil]; omega), if_pos (by rw [List.length_take]; omega), wrs (by omega), List.nil_append, take_snoc A i (by omega)]
    exact ih k (i + 1) (by omega) (by omega)
theorem l4Copy_eq (n : Int) (A : List (List Int)) (hA : A.length ≤ 1048576) (hr : ∀ r ∈ A, r.length ≤ 1048576) (k : Nat) (hk : A.length < k) : spec_l4Copy.f k n A = some (n, A) :=
  l4Copy_l n A hA hr A.length k 0 (by omega) hk
theorem add_j2 (n : Int) (A O : List (List Int)) (hA : A.length ≤ 1048576) (hr : ∀ r ∈ A, r.length ≤ 1048576) (hO : O.length ≤ 1048577) (k : Nat) (hk : 2 * A.length + 2 * O.length + 10 < k) : spec_AddAttack.j2 k n A n O = some (fin n A O) := by
  obtain ⟨k, rfl⟩ := rounds_succ hk
  simp only [spec_AddAttack.j2]
  rw [spec_IsGraph_eq n A (by omega) k (by omega), Option.bind_some]
  unfold fin
  by_cases h1 : isG n A = true
  · rw [if_pos h1, spec_IsGraph_eq2 n O (by omega) k (by omega), Option.bind_some]
    by_cases h2 : isG n O = true
    · rw [if_pos h2, if_pos (by simp [h1, h2])]
    · rw [if_neg h2, if_neg (by simp [h2]), l4Copy_eq n A (by omega) hr k (by omega), Option.bind_some]
  · rw [if_neg h1, if_neg (by simp [h1]), l4Copy_eq n A (by omega) hr k (by omega), Option.bind_some]
theorem add_done (n : Int) (A : List (List Int)) (a b : Int) (hA : A.length ≤ 1048576) (hg : isG n A = true) : ∀ (d k i : Nat) (O : List (List Int)), i + d = A.length → O.length ≤ i + 1 → 2 * d + 4 * A.length + 50 < k → spec_AddAttack.l0 k a b true i n A n O = some (fin n A (O ++ A.drop i)) := by
  have hr2 := (isG_ok hg).2
  intro d
  induction d with
  | zero =>
    intro k i O hd hO hk
    obtain ⟨k, rfl⟩ := rounds_succ hk
    obtain ⟨k, rfl⟩ := rounds_succ (show 0 < k by omega)
    simp only [spec_AddAttack.l0, spec_AddAttack.j1]; rw [if_neg (by omega), if_neg (by simp), if_pos trivial, List.drop_eq_nil_of_le (by omega), List.append_nil]
    exact add_j2 n A O hA (fun r h => by have := (hr2 r h).1; omega) (by omega) k (by omega)
  | succ d ih =>
    intro k i O hd hO hk
    obtain ⟨k, rfl⟩ := rounds_succ hk
    obtain ⟨k, rfl⟩ := rounds_succ (show 0 < k by omega)
    have hm := (hr2 _ (rdL_mem A i (by omega))).1
    simp only [spec_AddAttack.l0]; rw [if_pos (by omega), spec_IsGraph_eq n A (by omega) (k + 1) (by omega), Option.bind_some, hg]
    simp only [spec_AddAttack.j1]; rw [if_pos trivial, if_pos (by omega), if_pos (by omega), if_pos trivial, Option.bind_some, if_pos (by simp only [List.length_nil]; omega), if_pos (by omega), wrs (by omega), List.nil_append, ih k (i + 1) _ (by omega) (by rw [List.length_append, List.length_singleton]; omega) (by omega), rdL_drop A i (by omega), List.append_assoc]
    rfl
theorem add_go (n : Int) (A : List (List Int)) (a b : Int) (hA : A.length ≤ 1048576) (hg : isG n A = true) : ∀ (d k i : Nat), i + d = A.length → 2 * d + 4 * A.length + 60 < k → spec_AddAttack.l0 k a b false i n A n (A.take i) = some (fin n A (A.take i ++ ins a b (A.drop i))) := by
  have hr2 := (isG_ok hg).2
  intro d
  induction d with
  | zero =>
    intro k i hd hk
    obtain ⟨k, rfl⟩ := rounds_succ hk
    obtain ⟨k, rfl⟩ := rounds_succ (show 0 < k by omega)
    have hl : (A.take i).length = i := by rw [List.length_take]; omega
    simp only [spec_AddAttack.l0, spec_AddAttack.j1]; rw [if_neg (by omega), if_neg (by simp), if_neg (by simp), if_pos (by omega), List.drop_eq_nil_of_le (by omega)]
    exact add_j2 n A _ hA (fun r h => by have := (hr2 r h).1; omega) (by rw [List.length_append, List.length_singleton]; omega) k (by rw [List.length_append, List.length_singleton]; omega)
  | succ d ih =>
    intro k i hd hk
    obtain ⟨k, rfl⟩ := rounds_succ hk
    obtain ⟨k, rfl⟩ := rounds_succ (show 0 < k by omega)
    have hl : (A.take i).length = i := by rw [List.length_take]; omega
    have hm := (hr2 _ (rdL_mem A i (by omega))).1
    have hput : spec_AddAttack.l0 k a b true ((i + 1 : Nat) : Int) n A n (A.take i ++ [([a, b] : List Int)] ++ [rd_L1 A (i : Int)]) = some (fin n A (A.take i ++ ([a, b] :: A.drop i))) := by
      rw [add_done n A a b hA hg d k (i + 1) _ (by omega) (by simp only [List.length_append, List.length_singleton]; omega) (by omega), rdL_drop A i (by omega)]
      simp [List.append_assoc]
    have hgo := ih k (i + 1) (by omega) (by omega)
    rw [← take_snoc A i (by omega)] at hgo
    simp only [spec_AddAttack.l0]; rw [if_pos (by omega), spec_IsGraph_eq n A (by omega) (k + 1) (by omega), Option.bind_some, hg]
    rw [rdL_drop A i (by omega)] at hput ⊢
    simp only [spec_AddAttack.j1]
    generalize rd_L1 A (i : Int) = x at hm hput hgo ⊢
    rw [if_pos trivial, if_pos (by omega), if_pos (by omega), if_neg (by simp), if_pos (by omega)]
    simp only [Option.bind_some, List.nil_append]
    unfold ins
    by_cases h1 : rd x 0 > a
    · rw [if_pos h1, if_pos (by omega), if_pos (by simp only [List.length_nil]; omega), if_pos (by simp only [List.length_append, List.length_singleton]; omega), wrs (by omega), if_pos (.inl h1)]
      exact hput
    · rw [if_neg h1]
      by_cases h2 : rd x 0 = a
      · rw [if_pos h2, if_pos (by omega)]
        by_cases h3 : rd x 1 > b
        · rw [if_pos h3, if_pos (by omega), if_pos (by simp only [List.length_nil]; omega), if_pos (by simp only [List.length_append, List.length_singleton]; omega), wrs (by omega), if_pos (.inr ⟨h2, h3⟩)]
          exact hput
        · rw [if_neg h3, if_pos (by simp only [List.length_nil]; omega), if_pos (by omega), wrs (by omega), if_neg (by omega), hgo]
          simp [List.append_assoc]
      · rw [if_neg h2, if_pos (by simp only [List.length_nil]; omega), if_pos (by omega), wrs (by omega), if_neg (by omega), hgo]
        simp [List.append_assoc]
theorem spec_AddAttack_eq (n : Int) (A : List (List Int)) (a b : Int) (hA : A.length ≤ 1048576) (hr : ∀ r ∈ A, r.length ≤ 1048576) (k : Nat) (hk : 6 * A.length + 70 < k) : spec_AddAttack.f k n A a b = some (fin n A (ins a b A)) := by
  unfold spec_AddAttack.f
  by_cases hg : isG n A = true
  · have := add_go n A a b hA hg A.length k 0 (by omega) (by omega)
    simpa using this
  · have hf : isG n A = false := by simpa using hg
    obtain ⟨k, rfl⟩ := rounds_succ hk
    obtain ⟨k, rfl⟩ := rounds_succ (show 0 < k by omega)
    have hj := add_j2 n A ([] ++ [[a, b]]) hA hr (by simp) k (by simp; omega)
    have e : fin n A ([] ++ [[a, b]]) = fin n A (ins a b A) := by unfold fin; rw [hf]; rfl
    rw [e] at hj
    have hj1 : spec_AddAttack.j1 (k + 1) a b false 0 false n A n [] = some (fin n A (ins a b A)) := by
      simp only [spec_AddAttack.j1]
      rw [if_neg (by simp), if_neg (by simp), if_pos (by simp)]
      exact hj
    simp only [spec_AddAttack.l0]
    rw [spec_IsGraph_eq n A (by omega) (k + 1) (by omega), Option.bind_some, hf]
    split <;> exact hj1
theorem lex_iff (p q : List Int) : lexlt p q = true ↔ (rd p 0 < rd q 0 ∨ (rd p 0 = rd q 0 ∧ rd p 1 < rd q 1)) := by unfold lexlt; exact decide_eq_true_iff
theorem gl_sorted (w : Int) (R : List (List Int)) : ∀ prev, gl w prev R = true → R.Pairwise (fun p q => lexlt p q = true) ∧ ∀ q, prev = some q → ∀ p ∈ R, lexlt q p = true := by
  induction R with
  | nil => intro prev _; exact ⟨List.Pairwise.nil, fun _ _ p hp => by cases hp⟩
  | cons p R ih =>
    intro prev h
    have h2 : gl w (some p) R = true ∧ ∀ q, prev = some q → lexlt q p = true := by
      cases prev with
      | none => simp only [gl, Bool.and_eq_true] at h; exact ⟨h.2, fun q e => by cases e⟩
      | some q => simp only [gl, Bool.and_eq_true] at h; exact ⟨h.2, fun q' e => by cases e; exact h.1.2⟩
    obtain ⟨i1, i2⟩ := ih (some p) h2.1
    refine ⟨List.pairwise_cons.2 ⟨fun x hx => i2 p rfl x hx, i1⟩, fun q e x hx => ?_⟩
    rcases List.mem_cons.1 hx with rfl | hx
    · exact h2.2 q e
    · have a1 := (lex_iff _ _).1 (h2.2 q e)
      have a2 := (lex_iff _ _).1 (i2 p rfl x hx)
      exact (lex_iff _ _).2 (by omega)
theorem isG_sorted {n : Int} {A : List (List Int)} (h : isG n A = true) : A.Pairwise (fun p q => lexlt p q = true) := by
  unfold isG at h
  rw [Bool.and_eq_true] at h
  exact (gl_sorted _ A none h.2).1
theorem clone_l (n : Int) (A : List (List Int)) (hA : A.length ≤ 1048576) (hr : ∀ r ∈ A, r.length ≤ 1048576) : ∀ (d k i : Nat), i + d = A.length → d < k → impl_cloneGraph.l0 k A (A.length : Int) i n (A.take i) = some (n, A) := by
  intro d
  induction d with
  | zero =>
    intro k i hd hk
    obtain ⟨k, rfl⟩ := rounds_succ hk
    simp only [impl_cloneGraph.l0]; rw [if_neg (by omega), List.take_of_length_le (by omega)]
  | succ d ih =>
    intro k i hd hk
    obtain ⟨k, rfl⟩ := rounds_succ hk
    have hm := hr _ (rdL_mem A i (by omega))
    simp only [impl_cloneGraph.l0]; rw [if_pos (by omega), if_pos (by omega), if_pos (by omega)]
    unfold slices_Clone_int_int.f
    rw [if_pos (by omega), Option.bind_some, if_pos (by rw [List.length_take]; omega), wrs (by omega), take_snoc A i (by omega)]
    exact ih k (i + 1) (by omega) (by omega)
theorem clone_eq (n : Int) (A : List (List Int)) (hA : A.length ≤ 1048576) (hr : ∀ r ∈ A, r.length ≤ 1048576) (k : Nat) (hk : A.length < k) : impl_cloneGraph.f k n A = some (n, A) :=
  clone_l n A hA hr A.length k 0 (by omega) hk
theorem cmp_l (p q : List Int) (hp : p.length ≤ 1048576) : ∀ (d k i : Nat), i + d = p.length → d < k → ∃ t, slices_Compare_int_int.l0 k p q p (p.length : Int) i = some t := by
  intro d
  induction d with
  | zero =>
    intro k i hd hk
    obtain ⟨k, rfl⟩ := rounds_succ hk
    simp only [slices_Compare_int_int.l0]; rw [if_neg (by omega)]
    split <;> exact ⟨_, rfl⟩
  | succ d ih =>
    intro k i hd hk
    obtain ⟨k, rfl⟩ := rounds_succ hk
    simp only [slices_Compare_int_int.l0]; rw [if_pos (by omega), if_pos (by omega), if_pos (by omega)]
    by_cases h1 : (i : Int) ≥ (q.length : Int)
    · rw [if_pos h1]; exact ⟨_, rfl⟩
    · rw [if_neg h1, if_pos (by omega), cmpi_eq, Option.bind_some]
      generalize (if rd p ↑i < rd q ↑i then (-1 : Int) else if rd p ↑i > rd q ↑i then 1 else 0) = t
      by_cases h2 : t = 0
      · rw [if_pos h2, wrs (by omega)]; exact ih k (i + 1) (by omega) (by omega)
      · rw [if_neg h2]; exact ⟨_, rfl⟩
def putA (A : List (List Int)) (a b : Int) (j : Nat) : List (List Int) := A.take j ++ [a, b] :: A.drop j
def resA (n : Int) (A : List (List Int)) (a b : Int) (j : Nat) : Int × List (List Int) × Bool := if isG n (putA A a b j) = true then (n, putA A a b j, true) else (n, A, false)
theorem putA_len (A : List (List Int)) (a b : Int) (j : Nat) : (putA A a b j).length = A.length + 1 := by
  unfold putA; simp only [List.length_append, List.length_cons, List.length_take, List.length_drop]; omega
theorem add_j1 (n : Int) (A : List (List Int)) (a b : Int) (hA : A.length ≤ 1048576) (hr : ∀ r ∈ A, r.length ≤ 1048576) (j : Nat) (hj : j ≤ A.length) (k : Nat) (hk : A.length + 20 < k) : impl_AddAttack.j1 k [a, b] j n A n A = some (resA n A a b j) := by
  obtain ⟨k, rfl⟩ := rounds_succ hk
  have hl := putA_len A a b j
  simp only [impl_AddAttack.j1]
  unfold impl_AddAttack.ins
  rw [if_pos (by omega), Option.bind_some, Int.toNat_natCast, show A.take j ++ [a, b] :: A.drop j = putA A a b j from rfl, impl_IsGraph_eq2 n _ (by omega) k (by omega), Option.bind_some]
  unfold resA
  by_cases h : isG n (putA A a b j) = true
  · rw [if_pos h, if_pos h]
  · rw [if_neg h, if_neg h, clone_eq n A (by omega) hr k (by omega), Option.bind_some]
theorem add_l (n : Int) (A : List (List Int)) (a b : Int) (hA : A.length ≤ 1048576) (hr : ∀ r ∈ A, r.length ≤ 1048576) : ∀ (d k i : Nat), i + d = A.length → d + A.length + 1048676 < k → ∃ j, j ≤ A.length ∧ impl_AddAttack.l0 k [a, b] i n A n A = some (resA n A a b j) := by
  have hr2 : ∀ r ∈ A, r.length ≤ 1048576 := fun r h => by have := hr r h; omega
  intro d
  induction d with
  | zero =>
    intro k i hd hk
    obtain ⟨k, rfl⟩ := rounds_succ hk
    simp only [impl_AddAttack.l0]; rw [if_neg (by omega)]
    exact ⟨i, by omega, add_j1 n A a b hA hr2 i (by omega) k (by omega)⟩
  | succ d ih =>
    intro k i hd hk
    obtain ⟨k, rfl⟩ := rounds_succ hk
    have hm := hr _ (rdL_mem A i (by omega))
    obtain ⟨t, ht⟩ := cmp_l (rd_L1 A (i : Int)) [a, b] (by omega) (rd_L1 A (i : Int)).length k 0 (by omega) (by omega)
    simp only [impl_AddAttack.l0]; rw [if_pos (by omega), if_pos (by omega)]
    unfold slices_Compare_int_int.f
    rw [show (0 : Int) = ((0 : Nat) : Int) from rfl, ht, Option.bind_some, show ((0 : Nat) : Int) = (0 : Int) from rfl]
    by_cases h : t < 0
    · rw [if_pos h, wrs (by omega)]; exact ih k (i + 1) (by omega) (by omega)
    · rw [if_neg h]; exact ⟨i, by omega, add_j1 n A a b hA hr2 i (by omega) k (by omega)⟩
theorem add_eq (n : Int) (A : List (List Int)) (a b : Int) (hA : A.length ≤ 1048576) (hr : ∀ r ∈ A, r.length ≤ 1048576) (k : Nat) (hk : 2 * A.length + 1048676 < k) : ∃ j, j ≤ A.length ∧ impl_AddAttack.f k n A a b = some (resA n A a b j) := by
  unfold impl_AddAttack.f
  rw [clone_eq n A (by omega) (fun r h => by have := hr r h; omega) k (by omega), Option.bind_some]
  exact add_l n A a b hA hr A.length k 0 (by omega) (by omega)
theorem gl_mk (w : Int) (R : List (List Int)) : ∀ prev, (∀ p ∈ R, okE w p = true) → R.Pairwise (fun p q => lexlt p q = true) → (∀ q, prev = some q → ∀ p ∈ R, lexlt q p = true) → gl w prev R = true := by
  induction R with
  | nil => intro prev _ _ _; cases prev <;> simp [gl]
  | cons p R ih =>
    intro prev h1 h2 h3
    rw [List.pairwise_cons] at h2
    have hi := ih (some p) (fun x hx => h1 x (List.mem_cons_of_mem _ hx)) h2.2 (fun q e x hx => by cases e; exact h2.1 x hx)
    have hp := h1 p (List.mem_cons_self ..)
    cases prev with
    | none => simp [gl, hp, hi]
    | some q => simp [gl, hp, hi, h3 q rfl p (List.mem_cons_self ..)]
theorem put_sub {n : Int} {A : List (List Int)} {a b : Int} {j : Nat} (h : isG n (putA A a b j) = true) : isG n A = true := by
  have hs := isG_sorted h
  unfold isG at h ⊢
  rw [Bool.and_eq_true] at h ⊢
  refine ⟨h.1, gl_mk _ A none (fun p hp => gl_ok _ _ none h.2 p ?_) ?_ (fun q e => by cases e)⟩
  · unfold putA
    rw [← List.take_append_drop j A, List.mem_append] at hp
    rcases hp with hp | hp
    · exact List.mem_append_left _ hp
    · exact List.mem_append_right _ (List.mem_cons_of_mem _ hp)
  · have : A.Sublist (putA A a b j) := by
      have := (List.Sublist.refl (A.take j)).append (List.sublist_cons_self [a, b] (A.drop j))
      rwa [List.take_append_drop] at this
    exact hs.sublist this
theorem put_ins (a b : Int) : ∀ (A : List (List Int)) (i : Nat), i ≤ A.length → (∀ p ∈ A.take i, lexlt p [a, b] = true) → (∀ p, A[i]? = some p → lexlt p [a, b] = false ∧ p.length = 2) → A.Pairwise (fun p q => lexlt p q = true) → putA A a b i = ins a b A := by
  have r0 : rd [a, b] 0 = a := rfl
  have r1 : rd [a, b] 1 = b := rfl
  intro A
  induction A with
  | nil => intro i hi _ _ _; simp [putA, ins]
  | cons x R ih =>
    intro i hi h1 h2 hs
    rw [List.pairwise_cons] at hs
    cases i with
    | zero =>
      obtain ⟨hx, hx2⟩ := h2 x rfl
      have hx' : ¬ (rd x 0 < rd [a, b] 0 ∨ (rd x 0 = rd [a, b] 0 ∧ rd x 1 < rd [a, b] 1)) := fun e => by rw [(lex_iff _ _).2 e] at hx; cases hx
      rw [show putA (x :: R) a b 0 = [a, b] :: x :: R from rfl]
      unfold ins
      by_cases hc : rd x 0 > a ∨ (rd x 0 = a ∧ rd x 1 > b)
      · rw [if_pos hc]
      · rw [if_neg hc]
        have e0 : rd x 0 = a := by omega
        have e1 : rd x 1 = b := by omega
        have ex : x = [a, b] := by
          match x, hx2 with
          | [u, v], _ => rw [show u = a from e0, show v = b from e1]
        have er : ins a b R = [a, b] :: R := by
          cases R with
          | nil => rfl
          | cons y R =>
            have hy := (lex_iff _ _).1 (hs.1 y (List.mem_cons_self ..))
            unfold ins
            rw [if_pos (by omega)]
        rw [er, ex]
    | succ i =>
      have hx := (lex_iff _ _).1 (h1 x (by simp))
      have hi2 := ih i (by simp only [List.length_cons] at hi; omega) (fun p hp => h1 p (by rw [List.take_succ_cons]; exact List.mem_cons_of_mem _ hp)) (fun p hp => h2 p (by rw [List.getElem?_cons_succ]; exact hp)) hs.2
      have e : ins a b (x :: R) = if rd x 0 > a ∨ (rd x 0 = a ∧ rd x 1 > b) then [a, b] :: x :: R else x :: ins a b R := rfl
      rw [show putA (x :: R) a b (i + 1) = x :: putA R a b i from rfl, hi2, e, if_neg (by omega)]
theorem res_fin {n : Int} {A : List (List Int)} {a b : Int} {j : Nat} (h : isG n A = true → putA A a b j = ins a b A) : resA n A a b j = fin n A (ins a b A) := by
  unfold resA fin
  by_cases hg : isG n A = true
  · rw [h hg, hg, Bool.true_and]
  · rw [if_neg (fun e => hg (put_sub e))]
    have hf : isG n A = false := by simpa using hg
    rw [hf, Bool.false_and, if_neg (by simp)]
theorem add_lg (n : Int) (A : List (List Int)) (a b : Int) (hA : A.length ≤ 1048576) (hg : isG n A = true) : ∀ (d k i : Nat), i + d = A.length → (∀ p ∈ A.take i, lexlt p [a, b] = true) → d + A.length + 100 < k → impl_AddAttack.l0 k [a, b] i n A n A = some (fin n A (ins a b A)) := by
  have hr2 : ∀ r ∈ A, r.length ≤ 1048576 := fun r h => by have := ((isG_ok hg).2 r h).1; omega
  have hs := isG_sorted hg
  intro d
  induction d with
  | zero =>
    intro k i hd ht hk
    obtain ⟨k, rfl⟩ := rounds_succ hk
    simp only [impl_AddAttack.l0]; rw [if_neg (by omega), add_j1 n A a b hA hr2 i (by omega) k (by omega), res_fin (fun _ => put_ins a b A i (by omega) ht (fun p hp => by rw [List.getElem?_eq_none (by omega)] at hp; cases hp) hs)]
  | succ d ih =>
    intro k i hd ht hk
    obtain ⟨k, rfl⟩ := rounds_succ hk
    have h2 := isG_len2 hg i (by omega)
    obtain ⟨t, hc, htt⟩ := cmp2_eq (rd_L1 A (i : Int)) [a, b] h2 rfl k (by omega)
    simp only [impl_AddAttack.l0]; rw [if_pos (by omega), if_pos (by omega), hc, Option.bind_some]
    by_cases h : t < 0
    · rw [if_pos h, wrs (by omega)]
      refine ih k (i + 1) (by omega) (fun p hp => ?_) (by omega)
      rw [← take_snoc A i (by omega), List.mem_append, List.mem_singleton] at hp
      rcases hp with hp | rfl
      · exact ht p hp
      · cases e : lexlt (rd_L1 A (i : Int)) [a, b] with
        | true => rfl
        | false => have := htt.2 e; omega
    · rw [if_neg h, add_j1 n A a b hA hr2 i (by omega) k (by omega), res_fin (fun _ => put_ins a b A i (by omega) ht (fun p hp => by
        rw [rdL_some A i (by omega)] at hp
        cases hp
        exact ⟨htt.1 (by omega), h2⟩) hs)]
theorem impl_AddAttack_eq (n : Int) (A : List (List Int)) (a b : Int) (hA : A.length ≤ 1048576) (hr : ∀ r ∈ A, r.length ≤ 1048576) (k : Nat) (hk : 2 * A.length + 1048676 < k) : impl_AddAttack.f k n A a b = some (fin n A (ins a b A)) := by
  by_cases hg : isG n A = true
  · unfold impl_AddAttack.f
    rw [clone_eq n A (by omega) (fun r h => by have := hr r h; omega) k (by omega), Option.bind_some]
    exact add_lg n A a b hA hg A.length k 0 (by omega) (by simp) (by omega)
  · obtain ⟨j, _, e⟩ := add_eq n A a b hA hr k hk
    rw [e, res_fin (fun h => absurd h hg)]
theorem fin_len (n : Int) (A : List (List Int)) (a b : Int) : (fin n A (ins a b A)).2.1.length ≤ A.length + 1 := by
  unfold fin
  split
  · show (ins a b A).length ≤ _; rw [ins_len]; exact Nat.le_refl _
  · show A.length ≤ _; omega
theorem fin_mem {n : Int} {A : List (List Int)} {a b : Int} (hr : ∀ r ∈ A, r.length ≤ 1048576) : ∀ r ∈ (fin n A (ins a b A)).2.1, r.length ≤ 1048576 := by
  unfold fin
  split
  · intro r h
    rcases ins_mem a b A r h with rfl | h
    · simp
    · exact hr r h
  · exact hr
theorem heldG_eq (n : Int) (y : List (List Int)) (t : Int) (h0 : 1 ≤ t) (k : Nat) (h : laws_heldIntSS.f k y 1 = some t) : laws_heldGraph.f k n y 1 = some t := by
  unfold laws_heldGraph.f
  rw [h, Option.bind_some, if_neg (by omega)]
theorem markSS_held2 (l : List (List Int)) (hl : l.length ≤ 1048577) (hr : ∀ r ∈ l, r.length ≤ 1048576) : ∃ (t : Int) (y : List (List Int)), 1 ≤ t ∧ ∀ k, l.length + 1048576 < k → laws_markIntSS.f k l 1 = some (t, y) ∧ laws_heldIntSS.f k y 1 = some t := by
  have hb : l.length * 1048576 ≤ 1048577 * 1048576 := Nat.mul_le_mul_right _ hl
  obtain ⟨t, y, h1, _, _, h3⟩ := markSS_held_l 1048576 l [] 1 (by simp; omega) hr (by omega) (by omega)
  exact ⟨t, y, h1, fun k hk => h3 k hk⟩
def FnExactAddAttackPure : Prop := ∀ (a0_0 : Int) (l0_1 : List (List Int)) (a1 : Int) (a2 : Int), (Lit.int .i64 a0_0).wf = true → l0_1.length ≤ maxLen → (∀ r ∈ l0_1, r.length ≤ maxLen ∧ ∀ n ∈ r, (Lit.int .i64 n).wf = true) → (Lit.int .i64 a1).wf = true → (Lit.int .i64 a2).wf = true → ∃ k, laws_FnExactAddAttack.f k a0_0 l0_1 a1 a2 = some true
theorem FnExactAddAttack : FnExactAddAttackPure := by
  intro n A a b _ hl hr _ _
  refine ⟨33554432, ?_⟩
  unfold laws_FnExactAddAttack.f
  obtain ⟨t, ht, hb⟩ := szG_eq n A hl (fun r h => (hr r h).1) 33554432 (by omega)
  rw [ht, Option.bind_some]
  by_cases h0 : t < 0
  · rw [if_pos h0]
  · rw [if_neg h0]
    obtain ⟨h1, h2⟩ := hb (by omega)
    have hc := fin_len n A a b
    have hm := fin_mem (n := n) (a := a) (b := b) h2
    obtain ⟨mg, hmg, hmg0, _⟩ := markG_ends n A h1 h2 33554432 (by omega)
    obtain ⟨tt, y, t0, hty⟩ := markSS_held2 (fin n A (ins a b A)).2.1 (by omega) hm
    obtain ⟨q1, q2⟩ := hty 33554432 (by omega)
    have g1 := laws_toGraph_eq n A h1 h2 33554432 (by omega)
    have g2 := spec_AddAttack_eq n A a b h1 h2 33554432 (by omega)
    have g3 := impl_AddAttack_eq n A a b h1 h2 33554432 (by omega)
    generalize fin n A (ins a b A) = R at hc hm q1 q2 g2 g3
    obtain ⟨gn, gl, gb⟩ := R
    have q3 := heldG_eq gn y tt t0 33554432 q2
    have g4 : laws_eqGraph.f 33554432 gn gl gn gl = some true := by rw [laws_eqGraph_eq gn gn gl gl (by have := hc; simp only at this; omega) hm _ (by have := hc; simp only at this; omega)]; simp
    have g5 : laws_eqGraph.f 33554432 n A n A = some true := by rw [laws_eqGraph_eq n n A A (by omega) h2 _ (by omega)]; simp
    simp only at q1
    simp only [g1, g2, g3, g4, g5, hmg, q1, q3, Option.bind_some]
    rw [if_pos ⟨trivial, trivial, trivial, by omega, by omega, trivial⟩]
end Go.Proofs.Ytpdpampmbdgofaa.Pure
