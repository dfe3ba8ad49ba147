/- The program's VictimsOf answers as the reference's does, for all graphs and claims, leaves its argument alone and hands back memory of its own. Conditions: none. -/
import Derived.Test.YtpdpampmbdgofaaGFnExactVictimsOfx6
import Derived.OpenShut
namespace Go.Proofs.Ytpdpampmbdgofaa.Pure
open Go.RowKit Go.Proofs.Ytpdpampmbdgofaa.GFnExactVictimsOf Go.Proofs.YtpdpampmbdgofaaW.PrintWords Go.Proofs.YtpdpampmbdgofaaW.PrintLast
theorem wr {i : Int} (h0 : -9223372036854775808 ≤ i) (h : i ≤ 9223372036854775807) : wrap64 i = i := by unfold wrap64; omega
theorem wrs {i : Nat} (h : i < 9223372036854775807) : wrap64 ((i : Int) + 1) = ((i + 1 : Nat) : Int) := by unfold wrap64; omega
theorem rd_nat (l : List Int) (i : Nat) (h : i < l.length) : rd l (i : Int) = l[i] := by simp [rd, h]
theorem rd_some (l : List Int) (i : Nat) (h : i < l.length) : l[i]? = some (rd l (i : Int)) := by rw [rd_nat l i h, List.getElem?_eq_getElem h]
theorem rounds_succ {d k : Nat} (h : d < k) : ∃ m, k = m + 1 := ⟨k - 1, by omega⟩
theorem rdL_nat (l : List (List Int)) (i : Nat) (h : i < l.length) : rd_L1 l (i : Int) = l[i] := by simp [rd_L1, h]
theorem rdL_some (l : List (List Int)) (i : Nat) (h : i < l.length) : l[i]? = some (rd_L1 l (i : Int)) := by rw [rdL_nat l i h, List.getElem?_eq_getElem h]
theorem rdL_mem (l : List (List Int)) (i : Nat) (h : i < l.length) : rd_L1 l (i : Int) ∈ l := by rw [rdL_nat l i h]; exact List.getElem_mem h
theorem rdL_drop (l : List (List Int)) (i : Nat) (h : i < l.length) : l.drop i = rd_L1 l (i : Int) :: l.drop (i + 1) := by rw [rdL_nat l i h]; exact List.drop_eq_getElem_cons h
theorem szSS_l (l : List (List Int)) (hl : l.length ≤ 1048576) (hr : ∀ r ∈ l, r.length ≤ maxLen) : ∀ (d k i : Nat) (a : Int), 0 ≤ a → a ≤ 1048576 → i + d = l.length → d < k → ∃ t, laws_szIntSS.l0 k l a i = some t ∧ t ≤ 1048576 ∧ (0 ≤ t → ∀ r ∈ l.drop i, r.length ≤ 1048576) := by
  intro d
  induction d with
  | zero =>
    intro k i a h0 h1 hd hk
    obtain ⟨k, rfl⟩ := rounds_succ hk
    simp only [laws_szIntSS.l0]; rw [if_neg (by omega)]
    exact ⟨a, rfl, h1, fun _ r hr => by rw [List.drop_eq_nil_of_le (by omega)] at hr; cases hr⟩
  | succ d ih =>
    intro k i a h0 h1 hd hk
    obtain ⟨k, rfl⟩ := rounds_succ hk
    have hm := hr _ (rdL_mem l i (by omega))
    unfold maxLen at hm
    simp only [laws_szIntSS.l0]; rw [if_pos (by omega), if_pos (by omega), wrs (by omega), rdL_drop l i (by omega)]
    generalize rd_L1 l (i : Int) = r at hm ⊢
    unfold laws_szIntS.f
    rw [wr (i := a - (r.length : Int)) (by omega) (by omega)]
    by_cases h : a - (r.length : Int) < 0
    · rw [if_pos h, Option.bind_some, if_pos (by omega)]
      exact ⟨-1, rfl, by omega, fun h => by omega⟩
    · rw [if_neg h, Option.bind_some, if_neg h]
      obtain ⟨t, ht, h2, h3⟩ := ih k (i + 1) _ (show 0 ≤ a - (r.length : Int) by omega) (by omega) (by omega) (by omega)
      refine ⟨t, ht, h2, fun h4 r' hr' => ?_⟩
      rcases List.mem_cons.1 hr' with e | e
      · subst e; omega
      · exact h3 h4 r' e
theorem szSS_eq (l : List (List Int)) (hl : l.length ≤ maxLen) (hr : ∀ r ∈ l, r.length ≤ maxLen) (k : Nat) (hk : l.length < k ∨ 1048576 < k) : ∃ t, laws_szIntSS.f k l 1048576 = some t ∧ (0 ≤ t → l.length ≤ 1048576 ∧ ∀ r ∈ l, r.length ≤ 1048576) := by
  unfold maxLen at hl
  unfold laws_szIntSS.f
  rw [wr (i := 1048576 - (l.length : Int)) (by omega) (by omega)]
  by_cases h : 1048576 - (l.length : Int) < 0
  · rw [if_pos h]; exact ⟨-1, rfl, fun h => by omega⟩
  · rw [if_neg h]
    obtain ⟨t, ht, _, h3⟩ := szSS_l l (by omega) hr l.length k 0 _ (show 0 ≤ 1048576 - (l.length : Int) by omega) (by omega) (by omega) (by omega)
    exact ⟨t, ht, fun h4 => ⟨by omega, fun r hr => h3 h4 r (by simpa using hr)⟩⟩
theorem szG_eq (n : Int) (l : List (List Int)) (hl : l.length ≤ maxLen) (hr : ∀ r ∈ l, r.length ≤ maxLen) (k : Nat) (hk : l.length < k ∨ 1048576 < k) : ∃ t, laws_szGraph.f k n l 1048576 = some t ∧ (0 ≤ t → l.length ≤ 1048576 ∧ ∀ r ∈ l, r.length ≤ 1048576) := by
  obtain ⟨t, ht, h⟩ := szSS_eq l hl hr k hk
  unfold laws_szGraph.f
  rw [ht, Option.bind_some]
  by_cases h0 : t < 0
  · rw [if_pos h0]; exact ⟨-1, rfl, fun h => by omega⟩
  · rw [if_neg h0]; exact ⟨t, rfl, h⟩
theorem laws_toIntS_l (l : List Int) (hl : l.length ≤ 1048576) : ∀ (d k i : Nat) (xs : List Int), xs.length = l.length → (∀ j, j < i → xs[j]? = l[j]?) → i + d = l.length → d < k → laws_toIntS.l0 k l xs i = some l := by
  intro d
  induction d with
  | zero =>
    intro k i xs hx hp hd hk
    obtain ⟨k, rfl⟩ := rounds_succ hk
    simp only [laws_toIntS.l0]; rw [if_neg (by omega)]
    congr 1
    refine List.ext_getElem? fun j => ?_
    by_cases hj : j < i
    · exact hp j hj
    · rw [List.getElem?_eq_none (by omega), List.getElem?_eq_none (by omega)]
  | succ d ih =>
    intro k i xs hx hp hd hk
    obtain ⟨k, rfl⟩ := rounds_succ hk
    simp only [laws_toIntS.l0]; rw [if_pos (by omega), if_pos (by omega), if_pos (by omega), wrs (by omega), Int.toNat_natCast]
    refine ih k (i + 1) _ (by simp [hx]) ?_ (by omega) (by omega)
    intro j hj
    rw [List.getElem?_set]
    by_cases e : i = j
    · subst e; rw [if_pos rfl, if_pos (by omega), rd_some l i (by omega)]
    · rw [if_neg e]; exact hp j (by omega)
theorem laws_toIntS_eq (l : List Int) (hl : l.length ≤ 1048576) (k : Nat) (hk : l.length < k) : laws_toIntS.f k l = some l := by
  unfold laws_toIntS.f
  rw [if_pos (by omega), if_pos (by omega)]
  exact laws_toIntS_l l hl l.length k 0 _ (by simp) (fun j hj => by omega) (by omega) hk
theorem toSS_l (l : List (List Int)) (hl : l.length ≤ 1048576) (hr : ∀ r ∈ l, r.length ≤ 1048576) : ∀ (d k i : Nat) (xs : List (List Int)), xs.length = l.length → (∀ j, j < i → xs[j]? = l[j]?) → i + d = l.length → d + 1048576 < k → laws_toIntSS.l0 k l xs i = some l := by
  intro d
  induction d with
  | zero =>
    intro k i xs hx hp hd hk
    obtain ⟨k, rfl⟩ := rounds_succ hk
    simp only [laws_toIntSS.l0]; rw [if_neg (by omega)]
    congr 1
    refine List.ext_getElem? fun j => ?_
    by_cases hj : j < i
    · exact hp j hj
    · rw [List.getElem?_eq_none (by omega), List.getElem?_eq_none (by omega)]
  | succ d ih =>
    intro k i xs hx hp hd hk
    obtain ⟨k, rfl⟩ := rounds_succ hk
    have hm := hr _ (rdL_mem l i (by omega))
    simp only [laws_toIntSS.l0]; rw [if_pos (by omega), if_pos (by omega), laws_toIntS_eq _ hm k (by omega), Option.bind_some, if_pos (by omega), wrs (by omega), Int.toNat_natCast]
    refine ih k (i + 1) _ (by simp [hx]) ?_ (by omega) (by omega)
    intro j hj
    rw [List.getElem?_set]
    by_cases e : i = j
    · subst e; rw [if_pos rfl, if_pos (by omega), rdL_some l i (by omega)]
    · rw [if_neg e]; exact hp j (by omega)
theorem laws_toIntSS_eq (l : List (List Int)) (hl : l.length ≤ 1048576) (hr : ∀ r ∈ l, r.length ≤ 1048576) (k : Nat) (hk : 2097152 < k) : laws_toIntSS.f k l = some l := by
  unfold laws_toIntSS.f
  rw [if_pos (by omega), if_pos (by omega)]
  exact toSS_l l hl hr l.length k 0 _ (by simp) (fun j hj => by omega) (by omega) (by omega)
theorem laws_toGraph_eq (n : Int) (l : List (List Int)) (hl : l.length ≤ 1048576) (hr : ∀ r ∈ l, r.length ≤ 1048576) (k : Nat) (hk : 2097152 < k) : laws_toGraph.f k n l = some (n, l) := by
  unfold laws_toGraph.f
  rw [laws_toIntSS_eq l hl hr k hk, Option.bind_some]
theorem laws_eqIntS_l (a b : List Int) (hl : a.length ≤ 1099511627776) (hab : a.length = b.length) : ∀ (d k i : Nat), (∀ j, j < i → a[j]? = b[j]?) → i + d = a.length → d < k → laws_eqIntS.l0 k a b i = some (decide (a = b)) := by
  intro d
  induction d with
  | zero =>
    intro k i hp hd hk
    obtain ⟨k, rfl⟩ := rounds_succ hk
    simp only [laws_eqIntS.l0]; rw [if_neg (by omega)]
    have : a = b := by
      refine List.ext_getElem? fun j => ?_
      by_cases hj : j < i
      · exact hp j hj
      · rw [List.getElem?_eq_none (by omega), List.getElem?_eq_none (by omega)]
    simp [this]
  | succ d ih =>
    intro k i hp hd hk
    obtain ⟨k, rfl⟩ := rounds_succ hk
    simp only [laws_eqIntS.l0]; rw [if_pos (by omega), if_pos (by omega), if_pos (by omega)]
    by_cases e : rd a i = rd b i
    · rw [if_pos e, wrs (by omega)]
      refine ih k (i + 1) ?_ (by omega) (by omega)
      intro j hj
      by_cases e' : j = i
      · subst e'; rw [rd_some a j (by omega), rd_some b j (by omega), e]
      · exact hp j (by omega)
    · rw [if_neg e]
      have : ¬ a = b := fun h => e (by rw [h])
      simp [this]
theorem laws_eqIntS_eq (a b : List Int) (hl : a.length ≤ 1099511627776) (k : Nat) (hk : a.length < k) : laws_eqIntS.f k a b = some (decide (a = b)) := by
  unfold laws_eqIntS.f
  by_cases h : a.length = b.length
  · rw [if_pos (by omega)]
    exact laws_eqIntS_l a b hl h a.length k 0 (fun j hj => by omega) (by omega) hk
  · rw [if_neg (by omega)]
    have : ¬ a = b := fun e => h (by rw [e])
    simp [this]
theorem eqSS_l (a b : List (List Int)) (hl : a.length ≤ 1099511627776) (hr : ∀ r ∈ a, r.length ≤ 1048576) (hab : a.length = b.length) : ∀ (d k i : Nat), (∀ j, j < i → a[j]? = b[j]?) → i + d = a.length → d + 1048576 < k → laws_eqIntSS.l0 k a b i = some (decide (a = b)) := by
  intro d
  induction d with
  | zero =>
    intro k i hp hd hk
    obtain ⟨k, rfl⟩ := rounds_succ hk
    simp only [laws_eqIntSS.l0]; rw [if_neg (by omega)]
    have : a = b := by
      refine List.ext_getElem? fun j => ?_
      by_cases hj : j < i
      · exact hp j hj
      · rw [List.getElem?_eq_none (by omega), List.getElem?_eq_none (by omega)]
    simp [this]
  | succ d ih =>
    intro k i hp hd hk
    obtain ⟨k, rfl⟩ := rounds_succ hk
    have hm := hr _ (rdL_mem a i (by omega))
    simp only [laws_eqIntSS.l0]; rw [if_pos (by omega), if_pos (by omega), if_pos (by omega), laws_eqIntS_eq _ _ (by omega) k (by omega), Option.bind_some]
    by_cases e : rd_L1 a i = rd_L1 b i
    · rw [if_pos (by simp [e]), wrs (by omega)]
      refine ih k (i + 1) ?_ (by omega) (by omega)
      intro j hj
      by_cases e' : j = i
      · subst e'; rw [rdL_some a j (by omega), rdL_some b j (by omega), e]
      · exact hp j (by omega)
    · rw [if_neg (by simp [e])]
      have : ¬ a = b := fun h => e (by rw [h])
      simp [this]
theorem laws_eqIntSS_eq (a b : List (List Int)) (hl : a.length ≤ 1099511627776) (hr : ∀ r ∈ a, r.length ≤ 1048576) (k : Nat) (hk : a.length + 1048576 < k) : laws_eqIntSS.f k a b = some (decide (a = b)) := by
  unfold laws_eqIntSS.f
  by_cases h : a.length = b.length
  · rw [if_pos (by omega)]
    exact eqSS_l a b hl hr h a.length k 0 (fun j hj => by omega) (by omega) hk
  · rw [if_neg (by omega)]
    have : ¬ a = b := fun e => h (by rw [e])
    simp [this]
theorem laws_eqGraph_eq (n m : Int) (a b : List (List Int)) (hl : a.length ≤ 1099511627776) (hr : ∀ r ∈ a, r.length ≤ 1048576) (k : Nat) (hk : a.length + 1048576 < k) : laws_eqGraph.f k n a m b = some (decide (n = m ∧ a = b)) := by
  unfold laws_eqGraph.f
  by_cases h : n = m
  · rw [if_pos h, laws_eqIntSS_eq a b hl hr k hk, Option.bind_some]
    by_cases e : a = b <;> simp [h, e]
  · rw [if_neg h]; simp [h]
theorem laws_markIntS_e (a0 : Int) (n : Nat) (h0 : 0 ≤ a0) (h1 : a0 + n ≤ 4611686018427387904) : ∀ (d k i : Nat) (x : List Int) (a : Int), x.length = n → a = a0 + i → i + d = n → d < k →
    ∃ m, laws_markIntS.l0 k x a i = some (a0 + n, m) := by
  intro d
  induction d with
  | zero =>
    intro k i x a hx ha hd hk
    obtain ⟨k, rfl⟩ := rounds_succ hk
    simp only [laws_markIntS.l0]; rw [if_neg (by omega)]
    exact ⟨x, by rw [ha]; congr 2; omega⟩
  | succ d ih =>
    intro k i x a hx ha hd hk
    obtain ⟨k, rfl⟩ := rounds_succ hk
    simp only [laws_markIntS.l0]; rw [if_pos (by omega), if_pos (by omega), wrs (by omega), wr (i := a + 1) (by omega) (by omega), Int.toNat_natCast]
    exact ih k (i + 1) _ _ (by simp [hx]) (by omega) (by omega) (by omega)
theorem laws_markIntS_ends (l : List Int) (a : Int) (h0 : 0 ≤ a) (h1 : a + l.length ≤ 4611686018427387904) (k : Nat) (hk : l.length < k) : ∃ m, laws_markIntS.f k l a = some (a + l.length, m) :=
  laws_markIntS_e a l.length h0 h1 l.length k 0 l a rfl (by omega) (by omega) hk
theorem markSS_l (B : Nat) (hB : B ≤ 1048576) (N : Nat) (hN : N ≤ 1048576) : ∀ (d k i : Nat) (x : List (List Int)) (a : Int), x.length = N → (∀ j, i ≤ j → (x.getD j []).length ≤ B) → 0 ≤ a → a ≤ 1 + (i * B : Nat) → i + d = N → d + B < k → ∃ m y, laws_markIntSS.l0 k x a i = some (m, y) ∧ 0 ≤ m ∧ m ≤ 1 + (N * B : Nat) := by
  intro d
  induction d with
  | zero =>
    intro k i x a hx hr h0 h1 hd hk
    obtain ⟨k, rfl⟩ := rounds_succ hk
    simp only [laws_markIntSS.l0]; rw [if_neg (by omega)]
    have hiN : i = N := by omega
    exact ⟨a, x, rfl, h0, by rw [← hiN]; exact h1⟩
  | succ d ih =>
    intro k i x a hx hr h0 h1 hd hk
    obtain ⟨k, rfl⟩ := rounds_succ hk
    have hi := hr i (Nat.le_refl _)
    have hib : i * B ≤ 1048576 * 1048576 := Nat.mul_le_mul (by omega) hB
    obtain ⟨m, hm⟩ := laws_markIntS_ends (x.getD i []) a h0 (by omega) k (by omega)
    simp only [laws_markIntSS.l0]; rw [if_pos (by omega), if_pos (by omega), Int.toNat_natCast, hm, Option.bind_some, wrs (by omega)]
    refine ih k (i + 1) _ _ (by simp [hx]) ?_ (by omega) (by rw [Nat.succ_mul]; omega) (by omega) (by omega)
    intro j hj
    have : (x.set i m).getD j [] = x.getD j [] := by
      simp only [List.getD_eq_getElem?_getD]
      rw [List.getElem?_set_ne (by omega)]
    rw [this]
    exact hr j (by omega)
theorem markG_ends (n : Int) (A : List (List Int)) (h1 : A.length ≤ 1048576) (h2 : ∀ r ∈ A, r.length ≤ 1048576) (k : Nat) (hk : A.length + 1048576 < k) : ∃ m, laws_markGraph.f k n A 1 = some m ∧ 0 ≤ m ∧ m ≤ 1099511627777 := by
  obtain ⟨m, y, e, h⟩ := markSS_l 1048576 (by omega) A.length h1 A.length k 0 A 1 rfl (fun j _ => by
    rw [List.getD_eq_getElem?_getD]
    by_cases hj : j < A.length
    · rw [List.getElem?_eq_getElem hj, Option.getD_some]; exact h2 _ (List.getElem_mem hj)
    · rw [List.getElem?_eq_none (by omega)]; simp) (by omega) (by omega) (by omega) hk
  have hb : A.length * 1048576 ≤ 1048576 * 1048576 := Nat.mul_le_mul_right _ h1
  refine ⟨m, ?_, h.1, by omega⟩
  unfold laws_markGraph.f laws_markIntSS.f
  rw [show (0 : Int) = ((0 : Nat) : Int) from rfl, e, Option.bind_some]
theorem laws_markIntS_l (a0 : Int) (n : Nat) (h0 : 0 ≤ a0) (h1 : a0 + n ≤ 4611686018427387904) : ∀ (d k i : Nat) (x : List Int) (a : Int), x.length = n → a = a0 + i → (∀ j, j < i → x[j]? = some ((a0 + (j : Int)))) → i + d = n → d < k →
    laws_markIntS.l0 k x a i = some (a0 + n, (List.range n).map fun (j : Nat) => (a0 + (j : Int))) := by
  intro d
  induction d with
  | zero =>
    intro k i x a hx ha hp hd hk
    obtain ⟨k, rfl⟩ := rounds_succ hk
    simp only [laws_markIntS.l0]; rw [if_neg (by omega)]
    have : x = (List.range n).map fun (j : Nat) => (a0 + (j : Int)) := by
      refine List.ext_getElem? fun j => ?_
      by_cases hj : j < n
      · rw [hp j (by omega), List.getElem?_map, List.getElem?_range hj]; rfl
      · rw [List.getElem?_eq_none (by omega), List.getElem?_eq_none (by simp; omega)]
    rw [this, ha]; congr 2; omega
  | succ d ih =>
    intro k i x a hx ha hp hd hk
    obtain ⟨k, rfl⟩ := rounds_succ hk
    simp only [laws_markIntS.l0]; rw [if_pos (by omega), if_pos (by omega), wrs (by omega), wr (i := a + 1) (by omega) (by omega), Int.toNat_natCast]
    refine ih k (i + 1) _ _ (by simp [hx]) (by omega) ?_ (by omega) (by omega)
    intro j hj
    rw [List.getElem?_set]
    by_cases e : i = j
    · subst e; rw [if_pos rfl, if_pos (by omega), ha]
    · rw [if_neg e]; exact hp j (by omega)
theorem laws_heldIntS_l (a0 : Int) (n : Nat) (h0 : 0 ≤ a0) (h1 : a0 + n ≤ 4611686018427387904) : ∀ (d k i : Nat) (a : Int), a = a0 + i → i + d = n → d < k →
    laws_heldIntS.l0 k ((List.range n).map fun (j : Nat) => (a0 + (j : Int))) a i = some (a0 + n) := by
  intro d
  induction d with
  | zero =>
    intro k i a ha hd hk
    obtain ⟨k, rfl⟩ := rounds_succ hk
    simp only [laws_heldIntS.l0]; rw [if_neg (by simp; omega)]
    rw [ha]; congr 1; omega
  | succ d ih =>
    intro k i a ha hd hk
    obtain ⟨k, rfl⟩ := rounds_succ hk
    simp only [laws_heldIntS.l0]; rw [if_pos (by simp; omega), if_pos (by omega), wrs (by omega), wr (i := a + 1) (by omega) (by omega)]
    rw [if_pos (by rw [rd_nat _ _ (by simp; omega)]; simp [ha])]
    exact ih k (i + 1) _ (by omega) (by omega) (by omega)
theorem laws_markIntS_held (l : List Int) (a : Int) (h0 : 0 ≤ a) (h1 : a + l.length ≤ 4611686018427387904) : ∃ m, ∀ k, l.length < k → laws_markIntS.f k l a = some (a + l.length, m) ∧ laws_heldIntS.f k m a = some (a + l.length) :=
  ⟨(List.range l.length).map fun (j : Nat) => (a + (j : Int)), fun k hk => ⟨laws_markIntS_l a l.length h0 h1 l.length k 0 l a rfl (by omega) (fun j hj => by omega) (by omega) hk, laws_heldIntS_l a l.length h0 h1 l.length k 0 a (by omega) (by omega) hk⟩⟩
def okE (w : Int) (p : List Int) : Bool := decide (p.length = 2 ∧ (0 ≤ rd p 0 ∧ rd p 0 ≤ w) ∧ (0 ≤ rd p 1 ∧ rd p 1 ≤ w))
def lexlt (p q : List Int) : Bool := decide (rd p 0 < rd q 0 ∨ (rd p 0 = rd q 0 ∧ rd p 1 < rd q 1))
def gl (w : Int) : Option (List Int) → List (List Int) → Bool
  | _, [] => true
  | prev, p :: R => okE w p && (match prev with | none => true | some q => lexlt q p) && gl w (some p) R
def isG (n : Int) (A : List (List Int)) : Bool := decide (0 ≤ n ∧ n ≤ 10) && gl (n - 1) none A
theorem gl_ok (w : Int) (R : List (List Int)) : ∀ prev, gl w prev R = true → ∀ p ∈ R, okE w p = true := by
  induction R with
  | nil => intro prev _ p hp; cases hp
  | cons q R ih =>
    intro prev h p hp
    simp only [gl, Bool.and_eq_true] at h
    rcases List.mem_cons.1 hp with e | e
    · rw [e]; exact h.1.1
    · exact ih _ h.2 p e
theorem isG_ok {n : Int} {A : List (List Int)} (h : isG n A = true) : (0 ≤ n ∧ n ≤ 10) ∧ ∀ p ∈ A, p.length = 2 ∧ (0 ≤ rd p 0 ∧ rd p 0 < n) ∧ (0 ≤ rd p 1 ∧ rd p 1 < n) := by
  unfold isG at h
  simp only [Bool.and_eq_true, decide_eq_true_eq] at h
  refine ⟨h.1, fun p hp => ?_⟩
  have := gl_ok _ _ _ h.2 p hp
  unfold okE at this
  have := of_decide_eq_true this
  omega
def prevOf (A : List (List Int)) (i : Nat) : Option (List Int) := if i = 0 then none else some (rd_L1 A ((i - 1 : Nat) : Int))
theorem prevOf_succ (A : List (List Int)) (i : Nat) : prevOf A (i + 1) = some (rd_L1 A (i : Int)) := by unfold prevOf; rw [if_neg (by omega)]; rfl
def vicA (A : List (List Int)) (c : Int) : List Int := (A.filter fun p => rd p 0 == c).map fun p => rd p 1
def attA (A : List (List Int)) (c : Int) : List Int := (A.filter fun p => rd p 1 == c).map fun p => rd p 0
def vic (n : Int) (A : List (List Int)) (c : Int) : List Int := if isG n A = true then vicA A c else []
def att (n : Int) (A : List (List Int)) (c : Int) : List Int := if isG n A = true then attA A c else []
theorem vicA_len (A : List (List Int)) (c : Int) : (vicA A c).length ≤ A.length := by unfold vicA; rw [List.length_map]; exact List.length_filter_le _ _
theorem attA_len (A : List (List Int)) (c : Int) : (attA A c).length ≤ A.length := by unfold attA; rw [List.length_map]; exact List.length_filter_le _ _
theorem vic_len (n : Int) (A : List (List Int)) (c : Int) : (vic n A c).length ≤ A.length := by unfold vic; split; exact vicA_len A c; simp
theorem att_len (n : Int) (A : List (List Int)) (c : Int) : (att n A c).length ≤ A.length := by unfold att; split; exact attA_len A c; simp
theorem isG_len2 {n : Int} {A : List (List Int)} (h : isG n A = true) (i : Nat) (hi : i < A.length) : (rd_L1 A (i : Int)).length = 2 := ((isG_ok h).2 _ (rdL_mem A i hi)).1
theorem vicA_cons (p : List Int) (R : List (List Int)) (c : Int) : vicA (p :: R) c = if rd p 0 = c then rd p 1 :: vicA R c else vicA R c := by
  unfold vicA
  by_cases h : rd p 0 = c
  · rw [if_pos h, List.filter_cons_of_pos (by simp [h])]; rfl
  · rw [if_neg h, List.filter_cons_of_neg (by simp [h])]
theorem attA_cons (p : List Int) (R : List (List Int)) (c : Int) : attA (p :: R) c = if rd p 1 = c then rd p 0 :: attA R c else attA R c := by
  unfold attA
  by_cases h : rd p 1 = c
  · rw [if_pos h, List.filter_cons_of_pos (by simp [h])]; rfl
  · rw [if_neg h, List.filter_cons_of_neg (by simp [h])]
theorem spec_l1In_eq (a b c : Int) : spec_l1In.f a b c = some (decide (b ≤ a ∧ a ≤ c)) := by
  unfold spec_l1In.f; by_cases h : b ≤ a <;> simp [h]
theorem spec_IsGraph_l (n : Int) (A : List (List Int)) (hA : A.length ≤ 1048576) : ∀ (d k i : Nat), i + d = A.length → (∀ j, j < i → (rd_L1 A (j : Int)).length = 2) → 2 * d + 1 < k →
    spec_IsGraph.l0 k i n A = some (gl (wrap64 (n - 1)) (prevOf A i) (A.drop i) && decide (0 ≤ n ∧ n ≤ 10)) := by
  generalize hw : wrap64 (n - 1) = w
  intro d
  induction d with
  | zero =>
    intro k i hd hp hk
    obtain ⟨k, rfl⟩ := rounds_succ hk
    simp only [spec_IsGraph.l0]; rw [if_neg (by omega), List.drop_eq_nil_of_le (by omega), spec_l1In_eq, Option.bind_some]
    simp [gl]
  | succ d ih =>
    intro k i hd hp hk
    obtain ⟨k, rfl⟩ := rounds_succ hk
    obtain ⟨k, rfl⟩ := rounds_succ (show 0 < k by omega)
    simp only [spec_IsGraph.l0]; rw [if_pos (by omega), if_pos (by omega), hw, rdL_drop A i (by omega)]
    simp only [gl]
    generalize hq : rd_L1 A (i : Int) = p
    by_cases h2 : p.length = 2
    · rw [if_pos (by omega), if_pos (by omega), spec_l1In_eq, Option.bind_some]
      by_cases h3 : 0 ≤ rd p 0 ∧ rd p 0 ≤ w
      · rw [if_pos (by simp [h3]), if_pos (by omega), spec_l1In_eq, Option.bind_some]
        by_cases h4 : 0 ≤ rd p 1 ∧ rd p 1 ≤ w
        · have hok : okE w p = true := by unfold okE; simp [h2, h3, h4]
          have hnext := ih k (i + 1) (by omega) (fun j hj => by
            by_cases e : j = i
            · rw [e, hq]; exact h2
            · exact hp j (by omega)) (by omega)
          rw [prevOf_succ, hq] at hnext
          simp only [spec_IsGraph.j1, hok, Bool.true_and]
          rw [if_neg (by simp [h4])]
          by_cases hi : i = 0
          · subst hi
            rw [if_neg (by omega)]
            rw [show wrap64 (((0 : Nat) : Int) + 1) = ((0 + 1 : Nat) : Int) from wrs (by omega), hnext]
            simp [prevOf]
          · have e1 : prevOf A i = some (rd_L1 A ((i - 1 : Nat) : Int)) := by unfold prevOf; rw [if_neg hi]
            have hl := hp (i - 1) (by omega)
            rw [e1]
            rw [if_pos (by omega), show wrap64 ((i : Int) - 1) = ((i - 1 : Nat) : Int) by rw [wr (by omega) (by omega)]; omega]
            generalize rd_L1 A ((i - 1 : Nat) : Int) = q at hl ⊢
            rw [if_pos (by omega), if_pos (by omega), if_pos (by omega), if_pos (by omega), wrs (by omega), hnext]
            by_cases h5 : rd q 0 > rd p 0
            · rw [if_pos h5]
              have : lexlt q p = false := by unfold lexlt; simp; omega
              simp [this]
            · rw [if_neg h5]
              by_cases h6 : rd q 0 = rd p 0
              · rw [if_pos h6, if_pos (by omega), if_pos (by omega)]
                by_cases h7 : rd q 1 ≥ rd p 1
                · rw [if_pos h7]
                  have : lexlt q p = false := by unfold lexlt; simp; omega
                  simp [this]
                · rw [if_neg h7]
                  have : lexlt q p = true := by unfold lexlt; simp; omega
                  simp [this]
              · rw [if_neg h6]
                have : lexlt q p = true := by unfold lexlt; simp; omega
                simp [this]
        · have hok : okE w p = false := by unfold okE; simp; omega
          simp only [spec_IsGraph.j1, hok, Bool.false_and]
          rw [if_pos (by simp; omega)]
      · have hok : okE w p = false := by unfold okE; simp; omega
        rw [if_neg (by simp; omega)]
        simp [spec_IsGraph.j1, hok]
    · have hok : okE w p = false := by unfold okE; simp [h2]
      rw [if_neg (by omega)]
      simp [spec_IsGraph.j1, hok]
theorem spec_IsGraph_eq (n : Int) (A : List (List Int)) (hA : A.length ≤ 1048576) (k : Nat) (hk : 2 * A.length + 1 < k) : spec_IsGraph.f k n A = some (isG n A) := by
  have := spec_IsGraph_l n A hA A.length k 0 (by omega) (fun j hj => by omega) hk
  unfold spec_IsGraph.f isG
  rw [show ((0 : Nat) : Int) = 0 from rfl] at this
  rw [this]
  by_cases h : 0 ≤ n ∧ n ≤ 10
  · rw [wr (i := n - 1) (by omega) (by omega)]; simp [h, prevOf]
  · simp [h]
theorem spec_VictimsOf_l (n : Int) (A : List (List Int)) (c : Int) (hA : A.length ≤ 1048576) (hg : isG n A = true) : ∀ (d k i : Nat) (o : List Int), i + d = A.length → o.length ≤ i → 2 * d + 2 * A.length + 3 < k → spec_VictimsOf.l0 k c o i n A = some (o ++ vicA (A.drop i) c) := by
  intro d
  induction d with
  | zero =>
    intro k i o hd ho hk
    obtain ⟨k, rfl⟩ := rounds_succ hk
    obtain ⟨k, rfl⟩ := rounds_succ (show 0 < k by omega)
    simp only [spec_VictimsOf.l0, spec_VictimsOf.j1]; rw [if_neg (by omega), if_neg (by simp), List.drop_eq_nil_of_le (by omega)]; simp [vicA]
  | succ d ih =>
    intro k i o hd ho hk
    obtain ⟨k, rfl⟩ := rounds_succ hk
    obtain ⟨k, rfl⟩ := rounds_succ (show 0 < k by omega)
    have h2 := isG_len2 hg i (by omega)
    simp only [spec_VictimsOf.l0]; rw [if_pos (by omega), spec_IsGraph_eq n A hA (k + 1) (by omega), Option.bind_some, hg]
    simp only [spec_VictimsOf.j1]; rw [if_pos trivial, if_pos (by omega), if_pos (by omega), if_pos (by omega), wrs (by omega), rdL_drop A i (by omega)]
    generalize rd_L1 A (i : Int) = p at h2 ⊢
    by_cases h : rd p 0 = c
    · rw [if_pos h, if_pos (by omega), if_pos (by omega), ih k (i + 1) _ (by omega) (by rw [List.length_append, List.length_singleton]; omega) (by omega)]
      simp [vicA, h]
    · rw [if_neg h, ih k (i + 1) _ (by omega) (by omega) (by omega)]
      simp [vicA, h]
theorem spec_VictimsOf_eq (n : Int) (A : List (List Int)) (c : Int) (hA : A.length ≤ 1048576) (k : Nat) (hk : 4 * A.length + 3 < k) : spec_VictimsOf.f k n A c = some (vic n A c) := by
  unfold spec_VictimsOf.f vic
  by_cases h : isG n A = true
  · rw [if_pos h]
    have := spec_VictimsOf_l n A c hA h A.length k 0 [] (by omega) (by simp) (by omega)
    simpa using this
  · rw [if_neg h]
    obtain ⟨k, rfl⟩ := rounds_succ hk
    obtain ⟨k, rfl⟩ := rounds_succ (show 0 < k by omega)
    have hf : isG n A = false := by simpa using h
    simp only [spec_VictimsOf.l0]
    rw [spec_IsGraph_eq n A hA (k + 1) (by omega), Option.bind_some, hf]
    simp only [spec_VictimsOf.j1]
    split <;> simp
theorem impl_InRange_eq (a b c : Int) : impl_InRange.f a b c = some (decide (b ≤ a ∧ a ≤ c)) := by
  unfold impl_InRange.f; by_cases h : b ≤ a <;> simp [h]
theorem cmpi_eq (a b : Int) : cmp_Compare_int.f a b = some (if a < b then -1 else if a > b then 1 else 0) := by
  unfold cmp_Compare_int.f cmp_isNaN_int.f
  simp only [Option.bind_some, bne_self_eq_false, Bool.false_eq_true, if_false]
  split
  · rfl
  · split <;> rfl
theorem cmp2_eq (p q : List Int) (hp : p.length = 2) (hq : q.length = 2) (k : Nat) (hk : 3 < k) : ∃ t, slices_Compare_int_int.f k p q = some t ∧ (t ≥ 0 ↔ lexlt p q = false) := by
  obtain ⟨k, rfl⟩ : ∃ m, k = m + 3 := ⟨k - 3, by omega⟩
  have l1 : lexlt p q = decide (rd p 0 < rd q 0 ∨ (rd p 0 = rd q 0 ∧ rd p 1 < rd q 1)) := rfl
  rw [l1]
  unfold slices_Compare_int_int.f
  rw [slices_Compare_int_int.l0, if_pos (by omega), if_pos (by omega), if_pos (by omega), if_neg (by omega), if_pos (by omega), cmpi_eq, Option.bind_some]
  by_cases h1 : rd p 0 < rd q 0
  · rw [if_pos h1, if_neg (by omega)]; exact ⟨-1, rfl, by simp [h1]⟩
  · rw [if_neg h1]
    by_cases h2 : rd p 0 > rd q 0
    · rw [if_pos h2, if_neg (by omega)]; exact ⟨1, rfl, by simp; omega⟩
    · rw [if_neg h2, if_pos rfl, show wrap64 ((0 : Int) + 1) = 1 from wr (by omega) (by omega)]
      rw [slices_Compare_int_int.l0, if_pos (by omega), if_pos (by omega), if_pos (by omega), if_neg (by omega), if_pos (by omega), cmpi_eq, Option.bind_some]
      by_cases h3 : rd p 1 < rd q 1
      · rw [if_pos h3, if_neg (by omega)]; exact ⟨-1, rfl, by simp [h3]; omega⟩
      · rw [if_neg h3]
        by_cases h4 : rd p 1 > rd q 1
        · rw [if_pos h4, if_neg (by omega)]; exact ⟨1, rfl, by simp; omega⟩
        · rw [if_neg h4, if_pos rfl, show wrap64 ((1 : Int) + 1) = 2 from wr (by omega) (by omega)]
          rw [slices_Compare_int_int.l0, if_neg (by omega), if_neg (by omega)]
          exact ⟨0, rfl, by simp; omega⟩
theorem impl_isClaim_eq (n : Int) (A : List (List Int)) (c : Int) (h : 0 ≤ n ∧ n ≤ 10) : impl_isClaim.f n A c = some (decide (0 ≤ c ∧ c ≤ n - 1)) := by
  unfold impl_isClaim.f
  rw [wr (i := n - 1) (by omega) (by omega), impl_InRange_eq, Option.bind_some]
theorem impl_IsGraph_l (n : Int) (A : List (List Int)) (hA : A.length ≤ 1048576) (hn : 0 ≤ n ∧ n ≤ 10) : ∀ (d k i : Nat), i + d = A.length → (∀ j, j < i → (rd_L1 A (j : Int)).length = 2) → d + 4 < k →
    impl_IsGraph.l0 k A (A.length : Int) i n A = some (gl (n - 1) (prevOf A i) (A.drop i)) := by
  intro d
  induction d with
  | zero =>
    intro k i hd hp hk
    obtain ⟨k, rfl⟩ := rounds_succ hk
    simp only [impl_IsGraph.l0]; rw [if_neg (by omega), List.drop_eq_nil_of_le (by omega)]
    simp [gl]
  | succ d ih =>
    intro k i hd hp hk
    obtain ⟨k, rfl⟩ := rounds_succ hk
    simp only [impl_IsGraph.l0]; rw [if_pos (by omega), if_pos (by omega), if_pos (by omega), rdL_drop A i (by omega)]
    simp only [gl]
    generalize hq : rd_L1 A (i : Int) = p
    by_cases h2 : p.length = 2
    · rw [if_pos (by omega), if_pos (by omega), impl_isClaim_eq n A _ hn, Option.bind_some]
      by_cases h3 : 0 ≤ rd p 0 ∧ rd p 0 ≤ n - 1
      · rw [if_pos (by simp only [h3, and_self, decide_true]), if_pos (by omega), impl_isClaim_eq n A _ hn, Option.bind_some]
        by_cases h4 : 0 ≤ rd p 1 ∧ rd p 1 ≤ n - 1
        · have hok : okE (n - 1) p = true := by unfold okE; simp only [h2, h3, h4, and_self, decide_true]
          have hnext := ih k (i + 1) (by omega) (fun j hj => by
            by_cases e : j = i
            · rw [e, hq]; exact h2
            · exact hp j (by omega)) (by omega)
          rw [prevOf_succ, hq] at hnext
          rw [if_pos (by simp only [h4, and_self, decide_true])]
          simp only [hok, Bool.true_and]
          by_cases hi : i = 0
          · subst hi
            rw [if_neg (by omega)]
            rw [show wrap64 (((0 : Nat) : Int) + 1) = ((0 + 1 : Nat) : Int) from wrs (by omega), hnext]
            simp [prevOf]
          · have e1 : prevOf A i = some (rd_L1 A ((i - 1 : Nat) : Int)) := by unfold prevOf; rw [if_neg hi]
            have hl := hp (i - 1) (by omega)
            rw [e1]
            rw [if_pos (by omega), show wrap64 ((i : Int) - 1) = ((i - 1 : Nat) : Int) by rw [wr (by omega) (by omega)]; omega]
            generalize rd_L1 A ((i - 1 : Nat) : Int) = q at hl ⊢
            rw [if_pos (by omega), if_pos (by omega)]
            obtain ⟨t, ht, htt⟩ := cmp2_eq q p hl h2 k (by omega)
            rw [ht, Option.bind_some, wrs (by omega), hnext]
            by_cases h5 : t ≥ 0
            · rw [if_pos h5]; simp [htt.1 h5]
            · rw [if_neg h5]
              have : lexlt q p = true := by
                cases e : lexlt q p with
                | true => rfl
                | false => exact absurd (htt.2 e) h5
              simp [this]
        · have hok : okE (n - 1) p = false := by unfold okE; simp only [decide_eq_false_iff_not]; omega
          rw [if_neg (by simp only [decide_eq_true_eq]; omega)]; simp [hok]
      · have hok : okE (n - 1) p = false := by unfold okE; simp only [decide_eq_false_iff_not]; omega
        rw [if_neg (by simp only [decide_eq_true_eq]; omega)]; simp [hok]
    · have hok : okE (n - 1) p = false := by unfold okE; simp [h2]
      rw [if_neg (by omega)]; simp [hok]
theorem impl_IsGraph_eq (n : Int) (A : List (List Int)) (hA : A.length ≤ 1048576) (k : Nat) (hk : A.length + 4 < k) : impl_IsGraph.f k n A = some (isG n A) := by
  unfold impl_IsGraph.f isG
  rw [impl_InRange_eq, Option.bind_some]
  by_cases h : 0 ≤ n ∧ n ≤ 10
  · rw [if_pos (by simp [h])]
    have := impl_IsGraph_l n A hA h A.length k 0 (by omega) (fun j hj => by omega) hk
    rw [show ((0 : Nat) : Int) = 0 from rfl] at this
    rw [this]
    simp [h, prevOf]
  · rw [if_neg (by simp only [decide_eq_true_eq]; exact h)]; simp [h]
theorem impl_VictimsOf_l (n : Int) (A : List (List Int)) (c : Int) (hA : A.length ≤ 1048576) (hg : isG n A = true) : ∀ (d k i : Nat) (o : List Int), i + d = A.length → o.length ≤ i → d < k → impl_VictimsOf.l0 k c o A (A.length : Int) i = some (o ++ vicA (A.drop i) c) := by
  intro d
  induction d with
  | zero =>
    intro k i o hd ho hk
    obtain ⟨k, rfl⟩ := rounds_succ hk
    simp only [impl_VictimsOf.l0]; rw [if_neg (by omega), List.drop_eq_nil_of_le (by omega)]; simp [vicA]
  | succ d ih =>
    intro k i o hd ho hk
    obtain ⟨k, rfl⟩ := rounds_succ hk
    have h2 := isG_len2 hg i (by omega)
    simp only [impl_VictimsOf.l0]; rw [if_pos (by omega), if_pos (by omega), if_pos (by omega), if_pos (by omega), wrs (by omega), rdL_drop A i (by omega)]
    generalize rd_L1 A (i : Int) = p at h2 ⊢
    by_cases h : rd p 0 = c
    · rw [if_pos h, if_pos (by omega), if_pos (by omega), ih k (i + 1) _ (by omega) (by rw [List.length_append, List.length_singleton]; omega) (by omega)]
      simp [vicA, h]
    · rw [if_neg h, ih k (i + 1) _ (by omega) (by omega) (by omega)]
      simp [vicA, h]
theorem impl_VictimsOf_eq (n : Int) (A : List (List Int)) (c : Int) (hA : A.length ≤ 1048576) (k : Nat) (hk : A.length + 4 < k) : impl_VictimsOf.f k n A c = some (vic n A c) := by
  unfold impl_VictimsOf.f vic
  rw [Option.bind_some, impl_IsGraph_eq n A hA k hk, Option.bind_some]
  by_cases h : isG n A = true
  · rw [if_pos h, if_pos h]
    have := impl_VictimsOf_l n A c hA h A.length k 0 [] (by omega) (by simp) (by omega)
    simpa using this
  · rw [if_neg h, if_neg h]
def FnExactVictimsOfPure : Prop := ∀ (a0_0 : Int) (l0_1 : List (List Int)) (a1 : Int), (Lit.int .i64 a0_0).wf = true → l0_1.length ≤ maxLen → (∀ r ∈ l0_1, r.length ≤ maxLen ∧ ∀ n ∈ r, (Lit.int .i64 n).wf = true) → (Lit.int .i64 a1).wf = true → ∃ k, laws_FnExactVictimsOf.f k a0_0 l0_1 a1 = some true
theorem FnExactVictimsOf : FnExactVictimsOfPure := by
  intro n A c _ hl hr _
  refine ⟨33554433, ?_⟩
  unfold laws_FnExactVictimsOf.f
  obtain ⟨t, ht, hb⟩ := szG_eq n A hl (fun r h => (hr r h).1) 33554433 (by omega)
  rw [ht, Option.bind_some]
  by_cases h0 : t < 0
  · rw [if_pos h0]
  · rw [if_neg h0]
    obtain ⟨h1, h2⟩ := hb (by omega)
    have hv := vic_len n A c
    obtain ⟨mg, hmg, hmg0, _⟩ := markG_ends n A h1 h2 33554433 (by omega)
    obtain ⟨mm, hmm⟩ := laws_markIntS_held (vic n A c) 1 (by omega) (by omega)
    have n1 : ¬ mg < 0 := by omega
    have n2 : ¬ ((1 : Int) + ((vic n A c).length : Int) < 0) := by omega
    have g1 : ∀ j, laws_toGraph.f (33554432 + j) n A = some (n, A) := fun j => laws_toGraph_eq n A h1 h2 _ (by omega)
    have g3 : ∀ j, spec_VictimsOf.f (33554432 + j) n A c = some (vic n A c) := fun j => spec_VictimsOf_eq n A c h1 _ (by omega)
    have g4 : ∀ j, impl_VictimsOf.f (33554432 + j) n A c = some (vic n A c) := fun j => impl_VictimsOf_eq n A c h1 _ (by omega)
    have g5 : ∀ j, laws_eqGraph.f (33554432 + j) n A n A = some true := fun j => by rw [laws_eqGraph_eq n n A A (by omega) h2 _ (by omega)]; simp
    have g6 : ∀ j, laws_eqIntS.f (33554432 + j) (vic n A c) (vic n A c) = some true := fun j => by rw [laws_eqIntS_eq _ _ (by omega) _ (by omega)]; simp
    have g7 : ∀ j, laws_markIntS.f (33554432 + j) (vic n A c) 1 = some (1 + ((vic n A c).length : Int), mm) := fun j => (hmm _ (by omega)).1
    have g8 : ∀ j, laws_heldIntS.f (33554432 + j) mm 1 = some (1 + ((vic n A c).length : Int)) := fun j => (hmm _ (by omega)).2
    have q1 := g1 1; have q3 := g3 1; have q4 := g4 1; have q5 := g5 1; have q6 := g6 1
    have p1 := g1 0; have p4 := g4 0; have p6 := g6 0; have p7 := g7 0; have p8 := g8 0
    simp only [Nat.reduceAdd, Nat.add_zero] at q1 q3 q4 q5 q6 p1 p4 p6 p7 p8
    simp only [q1, q3, q4, q5, q6, hmg, n1, laws_FnExactVictimsOf.j0, p1, p4, p6, p7, p8, n2, Option.bind_some, if_true, if_false, Bool.not_true, Bool.false_eq_true]
end Go.Proofs.Ytpdpampmbdgofaa.Pure
