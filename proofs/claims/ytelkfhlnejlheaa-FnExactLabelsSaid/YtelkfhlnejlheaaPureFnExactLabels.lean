/- The program's Labels answers as the reference's does, for all graphs, leaves its argument alone and hands back memory of its own. Conditions: none. -/
import Derived.Test.YtelkfhlnejlheaaGFnExactLabelsx12
import Derived.OpenShut
namespace Go.Proofs.Ytelkfhlnejlheaa.Pure
open Go.RowKit Go.Proofs.Ytelkfhlnejlheaa.GFnExactLabels Go.Proofs.YtelkfhlnejlheaaW.PrintWords Go.Proofs.YtelkfhlnejlheaaW.PrintLast
theorem wr {i : Int} (h0 : -9223372036854775808 ≤ i) (h : i ≤ 9223372036854775807) : wrap64 i = i := by unfold wrap64; omega
theorem wrs {i : Nat} (h : i < 9223372036854775807) : wrap64 ((i : Int) + 1) = ((i + 1 : Nat) : Int) := by unfold wrap64; omega
theorem rd_nat (l : List Int) (i : Nat) (h : i < l.length) : rd l (i : Int) = l[i] := by simp [rd, h]
theorem rd_some (l : List Int) (i : Nat) (h : i < l.length) : l[i]? = some (rd l (i : Int)) := by rw [rd_nat l i h, List.getElem?_eq_getElem h]
theorem rounds_succ {d k : Nat} (h : d < k) : ∃ m, k = m + 1 := ⟨k - 1, by omega⟩
theorem rdL_nat (l : List (List Int)) (i : Nat) (h : i < l.length) : rd_L1 l (i : Int) = l[i] := by simp [rd_L1, h]
theorem rdL_some (l : List (List Int)) (i : Nat) (h : i < l.length) : l[i]? = some (rd_L1 l (i : Int)) := by rw [rdL_nat l i h, List.getElem?_eq_getElem h]
theorem rdL_mem (l : List (List Int)) (i : Nat) (h : i < l.length) : rd_L1 l (i : Int) ∈ l := by rw [rdL_nat l i h]; exact List.getElem_mem h
theorem rdL_drop (l : List (List Int)) (i : Nat) (h : i < l.length) : l.drop i = rd_L1 l (i : Int) :: l.drop (i + 1) := by rw [rdL_nat l i h]; exact List.drop_eq_getElem_cons h
theorem szSS_l (l : List (List Int)) (hl : l.length ≤ 1048576) (hr : ∀ r ∈ l, r.length ≤ maxLen) : ∀ (d k i : Nat) (a : Int), 0 ≤ a → a ≤ 1048576 → i + d = l.length → d < k → ∃ t, laws_szIntSS.l0 k l a i = some t ∧ t ≤ 1048576 ∧ (0 ≤ t → ∀ r ∈ l.drop i, r.length ≤ 1048576) := by
  intro d
  induction d with
  | zero =>
    intro k i a h0 h1 hd hk
    obtain ⟨k, rfl⟩ := rounds_succ hk
    simp only [laws_szIntSS.l0]; rw [if_neg (by omega)]
    exact ⟨a, rfl, h1, fun _ r hr => by rw [List.drop_eq_nil_of_le (by omega)] at hr; cases hr⟩
  | succ d ih =>
    intro k i a h0 h1 hd hk
    obtain ⟨k, rfl⟩ := rounds_succ hk
    have hm := hr _ (rdL_mem l i (by omega))
    unfold maxLen at hm
    simp only [laws_szIntSS.l0]; rw [if_pos (by omega), if_pos (by omega), wrs (by omega), rdL_drop l i (by omega)]
    generalize rd_L1 l (i : Int) = r at hm ⊢
    unfold laws_szIntS.f
    rw [wr (i := a - (r.length : Int)) (by omega) (by omega)]
    by_cases h : a - (r.length : Int) < 0
    · rw [if_pos h, Option.bind_some, if_pos (by omega)]
      exact ⟨-1, rfl, by omega, fun h => by omega⟩
    · rw [if_neg h, Option.bind_some, if_neg h]
      obtain ⟨t, ht, h2, h3⟩ := ih k (i + 1) _ (show 0 ≤ a - (r.length : Int) by omega) (by omega) (by omega) (by omega)
      refine ⟨t, ht, h2, fun h4 r' hr' => ?_⟩
      rcases List.mem_cons.1 hr' with e | e
      · subst e; omega
      · exact h3 h4 r' e
theorem szSS_eq (l : List (List Int)) (hl : l.length ≤ maxLen) (hr : ∀ r ∈ l, r.length ≤ maxLen) (k : Nat) (hk : l.length < k ∨ 1048576 < k) : ∃ t, laws_szIntSS.f k l 1048576 = some t ∧ (0 ≤ t → l.length ≤ 1048576 ∧ ∀ r ∈ l, r.length ≤ 1048576) := by
  unfold maxLen at hl
  unfold laws_szIntSS.f
  rw [wr (i := 1048576 - (l.length : Int)) (by omega) (by omega)]
  by_cases h : 1048576 - (l.length : Int) < 0
  · rw [if_pos h]; exact ⟨-1, rfl, fun h => by omega⟩
  · rw [if_neg h]
    obtain ⟨t, ht, _, h3⟩ := szSS_l l (by omega) hr l.length k 0 _ (show 0 ≤ 1048576 - (l.length : Int) by omega) (by omega) (by omega) (by omega)
    exact ⟨t, ht, fun h4 => ⟨by omega, fun r hr => h3 h4 r (by simpa using hr)⟩⟩
theorem szG_eq (n : Int) (l : List (List Int)) (hl : l.length ≤ maxLen) (hr : ∀ r ∈ l, r.length ≤ maxLen) (k : Nat) (hk : l.length < k ∨ 1048576 < k) : ∃ t, laws_szGraph.f k n l 1048576 = some t ∧ (0 ≤ t → l.length ≤ 1048576 ∧ ∀ r ∈ l, r.length ≤ 1048576) := by
  obtain ⟨t, ht, h⟩ := szSS_eq l hl hr k hk
  unfold laws_szGraph.f
  rw [ht, Option.bind_some]
  by_cases h0 : t < 0
  · rw [if_pos h0]; exact ⟨-1, rfl, fun h => by omega⟩
  · rw [if_neg h0]; exact ⟨t, rfl, h⟩
theorem laws_toIntS_l (l : List Int) (hl : l.length ≤ 1048576) : ∀ (d k i : Nat) (xs : List Int), xs.length = l.length → (∀ j, j < i → xs[j]? = l[j]?) → i + d = l.length → d < k → laws_toIntS.l0 k l xs i = some l := by
  intro d
  induction d with
  | zero =>
    intro k i xs hx hp hd hk
    obtain ⟨k, rfl⟩ := rounds_succ hk
    simp only [laws_toIntS.l0]; rw [if_neg (by omega)]
    congr 1
    refine List.ext_getElem? fun j => ?_
    by_cases hj : j < i
    · exact hp j hj
    · rw [List.getElem?_eq_none (by omega), List.getElem?_eq_none (by omega)]
  | succ d ih =>
    intro k i xs hx hp hd hk
    obtain ⟨k, rfl⟩ := rounds_succ hk
    simp only [laws_toIntS.l0]; rw [if_pos (by omega), if_pos (by omega), if_pos (by omega), wrs (by omega), Int.toNat_natCast]
    refine ih k (i + 1) _ (by simp [hx]) ?_ (by omega) (by omega)
    intro j hj
    rw [List.getElem?_set]
    by_cases e : i = j
    · subst e; rw [if_pos rfl, if_pos (by omega), rd_some l i (by omega)]
    · rw [if_neg e]; exact hp j (by omega)
theorem laws_toIntS_eq (l : List Int) (hl : l.length ≤ 1048576) (k : Nat) (hk : l.length < k) : laws_toIntS.f k l = some l := by
  unfold laws_toIntS.f
  rw [if_pos (by omega), if_pos (by omega)]
  exact laws_toIntS_l l hl l.length k 0 _ (by simp) (fun j hj => by omega) (by omega) hk
theorem toSS_l (l : List (List Int)) (hl : l.length ≤ 1048576) (hr : ∀ r ∈ l, r.length ≤ 1048576) : ∀ (d k i : Nat) (xs : List (List Int)), xs.length = l.length → (∀ j, j < i → xs[j]? = l[j]?) → i + d = l.length → d + 1048576 < k → laws_toIntSS.l0 k l xs i = some l := by
  intro d
  induction d with
  | zero =>
    intro k i xs hx hp hd hk
    obtain ⟨k, rfl⟩ := rounds_succ hk
    simp only [laws_toIntSS.l0]; rw [if_neg (by omega)]
    congr 1
    refine List.ext_getElem? fun j => ?_
    by_cases hj : j < i
    · exact hp j hj
    · rw [List.getElem?_eq_none (by omega), List.getElem?_eq_none (by omega)]
  | succ d ih =>
    intro k i xs hx hp hd hk
    obtain ⟨k, rfl⟩ := rounds_succ hk
    have hm := hr _ (rdL_mem l i (by omega))
    simp only [laws_toIntSS.l0]; rw [if_pos (by omega), if_pos (by omega), laws_toIntS_eq _ hm k (by omega), Option.bind_some, if_pos (by omega), wrs (by omega), Int.toNat_natCast]
    refine ih k (i + 1) _ (by simp [hx]) ?_ (by omega) (by omega)
    intro j hj
    rw [List.getElem?_set]
    by_cases e : i = j
    · subst e; rw [if_pos rfl, if_pos (by omega), rdL_some l i (by omega)]
    · rw [if_neg e]; exact hp j (by omega)
theorem laws_toIntSS_eq (l : List (List Int)) (hl : l.length ≤ 1048576) (hr : ∀ r ∈ l, r.length ≤ 1048576) (k : Nat) (hk : 2097152 < k) : laws_toIntSS.f k l = some l := by
  unfold laws_toIntSS.f
  rw [if_pos (by omega), if_pos (by omega)]
  exact toSS_l l hl hr l.length k 0 _ (by simp) (fun j hj => by omega) (by omega) (by omega)
theorem laws_toGraph_eq (n : Int) (l : List (List Int)) (hl : l.length ≤ 1048576) (hr : ∀ r ∈ l, r.length ≤ 1048576) (k : Nat) (hk : 2097152 < k) : laws_toGraph.f k n l = some (n, l) := by
  unfold laws_toGraph.f
  rw [laws_toIntSS_eq l hl hr k hk, Option.bind_some]
theorem laws_eqIntS_l (a b : List Int) (hl : a.length ≤ 1099511627776) (hab : a.length = b.length) : ∀ (d k i : Nat), (∀ j, j < i → a[j]? = b[j]?) → i + d = a.length → d < k → laws_eqIntS.l0 k a b i = some (decide (a = b)) := by
  intro d
  induction d with
  | zero =>
    intro k i hp hd hk
    obtain ⟨k, rfl⟩ := rounds_succ hk
    simp only [laws_eqIntS.l0]; rw [if_neg (by omega)]
    have : a = b := by
      refine List.ext_getElem? fun j => ?_
      by_cases hj : j < i
      · exact hp j hj
      · rw [List.getElem?_eq_none (by omega), List.getElem?_eq_none (by omega)]
    simp [this]
  | succ d ih =>
    intro k i hp hd hk
    obtain ⟨k, rfl⟩ := rounds_succ hk
    simp only [laws_eqIntS.l0]; rw [if_pos (by omega), if_pos (by omega), if_pos (by omega)]
    by_cases e : rd a i = rd b i
    · rw [if_pos e, wrs (by omega)]
      refine ih k (i + 1) ?_ (by omega) (by omega)
      intro j hj
      by_cases e' : j = i
      · subst e'; rw [rd_some a j (by omega), rd_some b j (by omega), e]
      · exact hp j (by omega)
    · rw [if_neg e]
      have : ¬ a = b := fun h => e (by rw [h])
      simp [this]
theorem laws_eqIntS_eq (a b : List Int) (hl : a.length ≤ 1099511627776) (k : Nat) (hk : a.length < k) : laws_eqIntS.f k a b = some (decide (a = b)) := by
  unfold laws_eqIntS.f
  by_cases h : a.length = b.length
  · rw [if_pos (by omega)]
    exact laws_eqIntS_l a b hl h a.length k 0 (fun j hj => by omega) (by omega) hk
  · rw [if_neg (by omega)]
    have : ¬ a = b := fun e => h (by rw [e])
    simp [this]
theorem eqSS_l (a b : List (List Int)) (hl : a.length ≤ 1099511627776) (hr : ∀ r ∈ a, r.length ≤ 1048576) (hab : a.length = b.length) : ∀ (d k i : Nat), (∀ j, j < i → a[j]? = b[j]?) → i + d = a.length → d + 1048576 < k → laws_eqIntSS.l0 k a b i = some (decide (a = b)) := by
  intro d
  induction d with
  | zero =>
    intro k i hp hd hk
    obtain ⟨k, rfl⟩ := rounds_succ hk
    simp only [laws_eqIntSS.l0]; rw [if_neg (by omega)]
    have : a = b := by
      refine List.ext_getElem? fun j => ?_
      by_cases hj : j < i
      · exact hp j hj
      · rw [List.getElem?_eq_none (by omega), List.getElem?_eq_none (by omega)]
    simp [this]
  | succ d ih =>
    intro k i hp hd hk
    obtain ⟨k, rfl⟩ := rounds_succ hk
    have hm := hr _ (rdL_mem a i (by omega))
    simp only [laws_eqIntSS.l0]; rw [if_pos (by omega), if_pos (by omega), if_pos (by omega), laws_eqIntS_eq _ _ (by omega) k (by omega), Option.bind_some]
    by_cases e : rd_L1 a i = rd_L1 b i
    · rw [if_pos (by simp [e]), wrs (by omega)]
      refine ih k (i + 1) ?_ (by omega) (by omega)
      intro j hj
      by_cases e' : j = i
      · subst e'; rw [rdL_some a j (by omega), rdL_some b j (by omega), e]
      · exact hp j (by omega)
    · rw [if_neg (by simp [e])]
      have : ¬ a = b := fun h => e (by rw [h])
      simp [this]
theorem laws_eqIntSS_eq (a b : List (List Int)) (hl : a.length ≤ 1099511627776) (hr : ∀ r ∈ a, r.length ≤ 1048576) (k : Nat) (hk : a.length + 1048576 < k) : laws_eqIntSS.f k a b = some (decide (a = b)) := by
  unfold laws_eqIntSS.f
  by_cases h : a.length = b.length
  · rw [if_pos (by omega)]
    exact eqSS_l a b hl hr h a.length k 0 (fun j hj => by omega) (by omega) hk
  · rw [if_neg (by omega)]
    have : ¬ a = b := fun e => h (by rw [e])
    simp [this]
theorem laws_eqGraph_eq (n m : Int) (a b : List (List Int)) (hl : a.length ≤ 1099511627776) (hr : ∀ r ∈ a, r.length ≤ 1048576) (k : Nat) (hk : a.length + 1048576 < k) : laws_eqGraph.f k n a m b = some (decide (n = m ∧ a = b)) := by
  unfold laws_eqGraph.f
  by_cases h : n = m
  · rw [if_pos h, laws_eqIntSS_eq a b hl hr k hk, Option.bind_some]
    by_cases e : a = b <;> simp [h, e]
  · rw [if_neg h]; simp [h]
theorem laws_markIntS_e (a0 : Int) (n : Nat) (h0 : 0 ≤ a0) (h1 : a0 + n ≤ 4611686018427387904) : ∀ (d k i : Nat) (x : List Int) (a : Int), x.length = n → a = a0 + i → i + d = n → d < k →
    ∃ m, laws_markIntS.l0 k x a i = some (a0 + n, m) := by
  intro d
  induction d with
  | zero =>
    intro k i x a hx ha hd hk
    obtain ⟨k, rfl⟩ := rounds_succ hk
    simp only [laws_markIntS.l0]; rw [if_neg (by omega)]
    exact ⟨x, by rw [ha]; congr 2; omega⟩
  | succ d ih =>
    intro k i x a hx ha hd hk
    obtain ⟨k, rfl⟩ := rounds_succ hk
    simp only [laws_markIntS.l0]; rw [if_pos (by omega), if_pos (by omega), wrs (by omega), wr (i := a + 1) (by omega) (by omega), Int.toNat_natCast]
    exact ih k (i + 1) _ _ (by simp [hx]) (by omega) (by omega) (by omega)
theorem laws_markIntS_ends (l : List Int) (a : Int) (h0 : 0 ≤ a) (h1 : a + l.length ≤ 4611686018427387904) (k : Nat) (hk : l.length < k) : ∃ m, laws_markIntS.f k l a = some (a + l.length, m) :=
  laws_markIntS_e a l.length h0 h1 l.length k 0 l a rfl (by omega) (by omega) hk
theorem markSS_l (B : Nat) (hB : B ≤ 1048576) (N : Nat) (hN : N ≤ 1048576) : ∀ (d k i : Nat) (x : List (List Int)) (a : Int), x.length = N → (∀ j, i ≤ j → (x.getD j []).length ≤ B) → 0 ≤ a → a ≤ 1 + (i * B : Nat) → i + d = N → d + B < k → ∃ m y, laws_markIntSS.l0 k x a i = some (m, y) ∧ 0 ≤ m ∧ m ≤ 1 + (N * B : Nat) := by
  intro d
  induction d with
  | zero =>
    intro k i x a hx hr h0 h1 hd hk
    obtain ⟨k, rfl⟩ := rounds_succ hk
    simp only [laws_markIntSS.l0]; rw [if_neg (by omega)]
    have hiN : i = N := by omega
    exact ⟨a, x, rfl, h0, by rw [← hiN]; exact h1⟩
  | succ d ih =>
    intro k i x a hx hr h0 h1 hd hk
    obtain ⟨k, rfl⟩ := rounds_succ hk
    have hi := hr i (Nat.le_refl _)
    have hib : i * B ≤ 1048576 * 1048576 := Nat.mul_le_mul (by omega) hB
    obtain ⟨m, hm⟩ := laws_markIntS_ends (x.getD i []) a h0 (by omega) k (by omega)
    simp only [laws_markIntSS.l0]; rw [if_pos (by omega), if_pos (by omega), Int.toNat_natCast, hm, Option.bind_some, wrs (by omega)]
    refine ih k (i + 1) _ _ (by simp [hx]) ?_ (by omega) (by rw [Nat.succ_mul]; omega) (by omega) (by omega)
    intro j hj
    have : (x.set i m).getD j [] = x.getD j [] := by
      simp only [List.getD_eq_getElem?_getD]
      rw [List.getElem?_set_ne (by omega)]
    rw [this]
    exact hr j (by omega)
theorem markG_ends (n : Int) (A : List (List Int)) (h1 : A.length ≤ 1048576) (h2 : ∀ r ∈ A, r.length ≤ 1048576) (k : Nat) (hk : A.length + 1048576 < k) : ∃ m, laws_markGraph.f k n A 1 = some m ∧ 0 ≤ m ∧ m ≤ 1099511627777 := by
  obtain ⟨m, y, e, h⟩ := markSS_l 1048576 (by omega) A.length h1 A.length k 0 A 1 rfl (fun j _ => by
    rw [List.getD_eq_getElem?_getD]
    by_cases hj : j < A.length
    · rw [List.getElem?_eq_getElem hj, Option.getD_some]; exact h2 _ (List.getElem_mem hj)
    · rw [List.getElem?_eq_none (by omega)]; simp) (by omega) (by omega) (by omega) hk
  have hb : A.length * 1048576 ≤ 1048576 * 1048576 := Nat.mul_le_mul_right _ h1
  refine ⟨m, ?_, h.1, by omega⟩
  unfold laws_markGraph.f laws_markIntSS.f
  rw [show (0 : Int) = ((0 : Nat) : Int) from rfl, e, Option.bind_some]
theorem eqStr_refl (L : List ByteArray) (hL : L.length ≤ 1048576) (k : Nat) (hk : L.length < k) : laws_eqStringS.f k L L = some true := by
  have h : ∀ (d k i : Nat), i + d = L.length → d < k → laws_eqStringS.l0 k L L i = some true := by
    intro d
    induction d with
    | zero =>
      intro k i hd hk
      obtain ⟨k, rfl⟩ := rounds_succ hk
      simp only [laws_eqStringS.l0]; rw [if_neg (by omega)]
    | succ d ih =>
      intro k i hd hk
      obtain ⟨k, rfl⟩ := rounds_succ hk
      simp only [laws_eqStringS.l0]; rw [if_pos (by omega), if_pos (by omega), if_pos (by omega), if_pos trivial, wrs (by omega)]
      exact ih k (i + 1) (by omega) (by omega)
  unfold laws_eqStringS.f
  rw [if_pos rfl]
  exact h L.length k 0 (by omega) hk
theorem mt_l : ∀ (d : Nat) (v : Int) (s : ByteArray), 0 ≤ v → v < (10 ^ d : Nat) → d ≤ 18 → s.size + d ≤ 1000 → ∃ t, ∀ k, d < k → laws_markText.l0 k v s = some t := by
  intro d
  induction d with
  | zero =>
    intro v s h0 h1 _ hs
    refine ⟨(⟨#[109]⟩ : ByteArray) ++ s, fun k hk => ?_⟩
    obtain ⟨k, rfl⟩ := rounds_succ hk
    simp only [laws_markText.l0]; rw [if_neg (by omega), if_pos (by omega)]
  | succ d ih =>
    intro v s h0 h1 h2 hs
    by_cases hv : v > 0
    · have hsz : (strOfNums [(wrap64 (48 + (Int.tmod v 10))) % 256]).size = 1 := by simp [strOfNums_size]
      have hp : (10 ^ (d + 1) : Nat) ≤ 10 ^ 18 := Nat.pow_le_pow_right (by omega) h2
      have hd : Int.tdiv v 10 = v / 10 := Int.tdiv_eq_ediv_of_nonneg h0
      have hw : wrap64 (Int.tdiv v 10) = v / 10 := by rw [hd]; exact wr (by omega) (by omega)
      obtain ⟨t, ht⟩ := ih (v / 10) (strOfNums [(wrap64 (48 + (Int.tmod v 10))) % 256] ++ s) (by omega) (by rw [Nat.pow_succ] at h1; omega) (by omega) (by rw [ByteArray.size_append]; omega)
      refine ⟨t, fun k hk => ?_⟩
      obtain ⟨k, rfl⟩ := rounds_succ (show 0 < k by omega)
      simp only [laws_markText.l0]; rw [if_pos hv, Option.bind_some, if_pos (by omega), hw]
      exact ht k (by omega)
    · refine ⟨(⟨#[109]⟩ : ByteArray) ++ s, fun k hk => ?_⟩
      obtain ⟨k, rfl⟩ := rounds_succ (show 0 < k by omega)
      simp only [laws_markText.l0]; rw [if_neg hv, if_pos (by omega)]
def mtx (v : Int) : ByteArray := (laws_markText.f 20 v).getD ByteArray.empty
theorem mtx_eq (v : Int) (h0 : 0 ≤ v) (h1 : v < 100000000) (k : Nat) (hk : 18 < k) : laws_markText.f k v = some (mtx v) := by
  unfold mtx laws_markText.f
  by_cases h : v ≤ 0
  · rw [if_pos h, if_pos h]; rfl
  · rw [if_neg h, if_neg h]
    obtain ⟨t, ht⟩ := mt_l 18 v ⟨#[]⟩ h0 (by omega) (by omega) (by show 0 + 18 ≤ 1000; omega)
    rw [ht k (by omega), ht 20 (by omega)]; rfl
theorem rdS_at (l : List ByteArray) (i : Nat) (h : i < l.length) : rdOf ByteArray.empty l (i : Int) = l[i] := by simp [rdOf, h]
theorem markStr_l (a0 : Int) (n : Nat) (h0 : 0 ≤ a0) (h1 : a0 + n < 100000000) : ∀ (d k i : Nat) (x : List ByteArray) (a : Int), x.length = n → a = a0 + i → (∀ j, j < i → x[j]? = some (mtx (a0 + (j : Int)))) → i + d = n → d + 20 < k →
    laws_markStringS.l0 k x a i = some (a0 + n, (List.range n).map fun (j : Nat) => mtx (a0 + (j : Int))) := by
  intro d
  induction d with
  | zero =>
    intro k i x a hx ha hp hd hk
    obtain ⟨k, rfl⟩ := rounds_succ hk
    simp only [laws_markStringS.l0]; rw [if_neg (by omega)]
    have : x = (List.range n).map fun (j : Nat) => mtx (a0 + (j : Int)) := by
      refine List.ext_getElem? fun j => ?_
      by_cases hj : j < n
      · rw [hp j (by omega), List.getElem?_map, List.getElem?_range hj]; rfl
      · rw [List.getElem?_eq_none (by omega), List.getElem?_eq_none (by simp; omega)]
    rw [this, ha]; congr 2; omega
  | succ d ih =>
    intro k i x a hx ha hp hd hk
    obtain ⟨k, rfl⟩ := rounds_succ hk
    simp only [laws_markStringS.l0]; rw [if_pos (by omega), mtx_eq a (by omega) (by omega) k (by omega), Option.bind_some, if_pos (by omega), wrs (by omega), wr (i := a + 1) (by omega) (by omega), Int.toNat_natCast]
    refine ih k (i + 1) _ _ (by simp [hx]) (by omega) ?_ (by omega) (by omega)
    intro j hj
    rw [List.getElem?_set]
    by_cases e : i = j
    · subst e; rw [if_pos rfl, if_pos (by omega), ha]
    · rw [if_neg e]; exact hp j (by omega)
theorem heldStr_l (a0 : Int) (n : Nat) (h0 : 0 ≤ a0) (h1 : a0 + n < 100000000) : ∀ (d k i : Nat) (a : Int), a = a0 + i → i + d = n → d + 20 < k →
    laws_heldStringS.l0 k ((List.range n).map fun (j : Nat) => mtx (a0 + (j : Int))) a i = some (a0 + n) := by
  intro d
  induction d with
  | zero =>
    intro k i a ha hd hk
    obtain ⟨k, rfl⟩ := rounds_succ hk
    simp only [laws_heldStringS.l0]; rw [if_neg (by simp; omega)]
    rw [ha]; congr 1; omega
  | succ d ih =>
    intro k i a ha hd hk
    obtain ⟨k, rfl⟩ := rounds_succ hk
    simp only [laws_heldStringS.l0]; rw [if_pos (by simp; omega), if_pos (by omega), mtx_eq a (by omega) (by omega) k (by omega), Option.bind_some, wrs (by omega), wr (i := a + 1) (by omega) (by omega)]
    rw [if_pos (by rw [rdS_at _ _ (by simp; omega)]; simp [ha])]
    exact ih k (i + 1) _ (by omega) (by omega) (by omega)
theorem markStr_held (l : List ByteArray) (a : Int) (h0 : 0 ≤ a) (h1 : a + l.length < 100000000) : ∃ m, ∀ k, l.length + 20 < k → laws_markStringS.f k l a = some (a + l.length, m) ∧ laws_heldStringS.f k m a = some (a + l.length) :=
  ⟨(List.range l.length).map fun (j : Nat) => mtx (a + (j : Int)), fun k hk => ⟨markStr_l a l.length h0 h1 l.length k 0 l a rfl (by omega) (fun j hj => by omega) (by omega) hk, heldStr_l a l.length h0 h1 l.length k 0 a (by omega) (by omega) hk⟩⟩
def cl (n : Int) : List Int := (List.range n.toNat).map fun (i : Nat) => (i : Int)
def hitb (A : List (List Int)) (S : List Int) (k : Int) : Bool := A.any fun p => rd p 1 == k && S.contains (rd p 0)
def hit (A : List (List Int)) (n : Int) (S : List Int) : List Int := (cl n).filter (hitb A S)
def defb (A : List (List Int)) (S : List Int) (c : Int) : Bool := A.all fun p => !(rd p 1 == c) || hitb A S (rd p 0)
def dby (A : List (List Int)) (n : Int) (S : List Int) : List Int := (cl n).filter (defb A S)
theorem mem_cl (n k : Int) : k ∈ cl n ↔ 0 ≤ k ∧ k < n := by
  unfold cl; simp only [List.mem_map, List.mem_range]
  constructor
  · rintro ⟨i, hi, rfl⟩; omega
  · rintro ⟨h0, h1⟩; exact ⟨k.toNat, by omega, by omega⟩
theorem cl_length (n : Int) : (cl n).length = n.toNat := by simp [cl]
theorem cl_sorted (n : Int) : (cl n).Pairwise (· < ·) := by
  unfold cl; rw [List.pairwise_map]
  exact List.pairwise_lt_range.imp (fun h => by omega)
theorem hitb_iff (A : List (List Int)) (S : List Int) (k : Int) : hitb A S k = true ↔ ∃ p ∈ A, rd p 1 = k ∧ rd p 0 ∈ S := by
  unfold hitb; simp
theorem defb_iff (A : List (List Int)) (S : List Int) (c : Int) : defb A S c = true ↔ ∀ p ∈ A, rd p 1 = c → hitb A S (rd p 0) = true := by
  unfold defb; simp only [List.all_eq_true, Bool.or_eq_true, Bool.not_eq_true', beq_eq_false_iff_ne]
  constructor
  · intro h p hp e; rcases h p hp with h | h
    · exact absurd e h
    · exact h
  · intro h p hp; by_cases e : rd p 1 = c
    · exact .inr (h p hp e)
    · exact .inl e
theorem hitb_mono {A : List (List Int)} {S T : List Int} (h : ∀ x ∈ S, x ∈ T) (k : Int) (hk : hitb A S k = true) : hitb A T k = true := by
  rw [hitb_iff] at *
  obtain ⟨p, hp, e, hs⟩ := hk
  exact ⟨p, hp, e, h _ hs⟩
theorem defb_mono {A : List (List Int)} {S T : List Int} (h : ∀ x ∈ S, x ∈ T) (k : Int) (hk : defb A S k = true) : defb A T k = true := by
  rw [defb_iff] at *
  exact fun p hp e => hitb_mono h _ (hk p hp e)
theorem dby_mono {A : List (List Int)} {n : Int} {S T : List Int} (h : ∀ x ∈ S, x ∈ T) : ∀ x ∈ dby A n S, x ∈ dby A n T := by
  intro x hx
  unfold dby at *
  rw [List.mem_filter] at *
  exact ⟨hx.1, defb_mono h _ hx.2⟩
theorem dby_sub (A : List (List Int)) (n : Int) {S T : List Int} (h : ∀ x ∈ S, x ∈ T) : (dby A n S).Sublist (dby A n T) := by
  unfold dby
  have : (cl n).filter (defb A S) = ((cl n).filter (defb A T)).filter (defb A S) := by
    rw [List.filter_filter]
    refine List.filter_congr fun x _ => ?_
    cases e : defb A S x with
    | false => rfl
    | true => simp [defb_mono h x e]
  rw [this]
  exact List.filter_sublist
def ite_d (A : List (List Int)) (n : Int) : Nat → List Int
  | 0 => []
  | m + 1 => dby A n (ite_d A n m)
theorem ite_up (A : List (List Int)) (n : Int) (m : Nat) : ∀ x ∈ ite_d A n m, x ∈ ite_d A n (m + 1) := by
  induction m with
  | zero => intro x hx; cases hx
  | succ m ih => exact dby_mono ih
theorem ite_sub (A : List (List Int)) (n : Int) (m : Nat) : (ite_d A n m).Sublist (ite_d A n (m + 1)) := by
  cases m with
  | zero => exact List.nil_sublist _
  | succ m => exact dby_sub A n (ite_up A n m)
theorem ite_le (A : List (List Int)) (n : Int) (m : Nat) : (ite_d A n m).length ≤ n.toNat := by
  cases m with
  | zero => exact Nat.zero_le _
  | succ m => rw [← cl_length n]; exact (List.filter_sublist).length_le
/-- Either it stands still at some round, or it has grown by one a round. -/
theorem ite_grow (A : List (List Int)) (n : Int) (m : Nat) : (∃ j, j < m ∧ ite_d A n (j + 1) = ite_d A n j) ∨ m ≤ (ite_d A n m).length := by
  induction m with
  | zero => exact .inr (Nat.zero_le _)
  | succ m ih =>
    rcases ih with ⟨j, hj, e⟩ | h
    · exact .inl ⟨j, by omega, e⟩
    · by_cases e : ite_d A n (m + 1) = ite_d A n m
      · exact .inl ⟨m, by omega, e⟩
      · refine .inr ?_
        have hs := ite_sub A n m
        have := hs.length_le
        have hne : (ite_d A n m).length ≠ (ite_d A n (m + 1)).length := fun h => e (hs.eq_of_length h).symm
        omega
theorem ite_stop (A : List (List Int)) (n : Int) : ∃ j, j ≤ n.toNat ∧ ite_d A n (j + 1) = ite_d A n j := by
  rcases ite_grow A n (n.toNat + 1) with ⟨j, hj, e⟩ | h
  · exact ⟨j, by omega, e⟩
  · have := ite_le A n (n.toNat + 1); omega
/-- The least such round. -/
theorem ite_least (A : List (List Int)) (n : Int) : ∃ m, m ≤ n.toNat ∧ ite_d A n (m + 1) = ite_d A n m ∧ ∀ j, j < m → ite_d A n (j + 1) ≠ ite_d A n j := by
  obtain ⟨j, hj, e⟩ := ite_stop A n
  induction j using Nat.strongRecOn with
  | ind j ih =>
    by_cases h : ∃ i, i < j ∧ ite_d A n (i + 1) = ite_d A n i
    · obtain ⟨i, hi, ei⟩ := h
      exact ih i hi (by omega) ei
    · exact ⟨j, hj, e, fun i hi ei => h ⟨i, hi, ei⟩⟩
theorem ite_const (A : List (List Int)) (n : Int) (m : Nat) (e : ite_d A n (m + 1) = ite_d A n m) : ∀ d, ite_d A n (m + d) = ite_d A n m := by
  intro d
  induction d with
  | zero => rfl
  | succ d ih => rw [show m + (d + 1) = (m + d) + 1 by omega, ite_d, ih]; exact e
theorem ite_mono (A : List (List Int)) (n : Int) (m d : Nat) : ∀ x ∈ ite_d A n m, x ∈ ite_d A n (m + d) := by
  induction d with
  | zero => exact fun x h => h
  | succ d ih => exact fun x h => ite_up A n (m + d) x (ih x h)
def Free (A : List (List Int)) (S : List Int) : Prop := ∀ s ∈ S, hitb A S s = false
/-- What a free set defends is free. -/
theorem free_dby {A : List (List Int)} {n : Int} {S : List Int} (hf : Free A S) : Free A (dby A n S) := by
  intro b hb
  cases e : hitb A (dby A n S) b with
  | false => rfl
  | true =>
    rw [hitb_iff] at e
    obtain ⟨p, hp, e1, ha⟩ := e
    have hb' := (List.mem_filter.1 hb).2
    rw [defb_iff] at hb'
    have h1 := hb' p hp e1
    rw [hitb_iff] at h1
    obtain ⟨q, hq, e2, hsq⟩ := h1
    have ha' := (List.mem_filter.1 ha).2
    rw [defb_iff] at ha'
    have h2 := ha' q hq e2
    have := hf _ hsq
    rw [h2] at this; cases this
theorem ite_free (A : List (List Int)) (n : Int) (m : Nat) : Free A (ite_d A n m) := by
  induction m with
  | zero => intro s hs; cases hs
  | succ m ih => exact free_dby ih
theorem ite_in (A : List (List Int)) (n : Int) (S : List Int) (h : ∀ x ∈ dby A n S, x ∈ S) (m : Nat) : ∀ x ∈ ite_d A n m, x ∈ S := by
  induction m with
  | zero => intro x hx; cases hx
  | succ m ih => exact fun x hx => h x (dby_mono ih x hx)
def okE (w : Int) (p : List Int) : Bool := decide (p.length = 2 ∧ (0 ≤ rd p 0 ∧ rd p 0 ≤ w) ∧ (0 ≤ rd p 1 ∧ rd p 1 ≤ w))
def lexlt (p q : List Int) : Bool := decide (rd p 0 < rd q 0 ∨ (rd p 0 = rd q 0 ∧ rd p 1 < rd q 1))
def gl (w : Int) : Option (List Int) → List (List Int) → Bool
  | _, [] => true
  | prev, p :: R => okE w p && (match prev with | none => true | some q => lexlt q p) && gl w (some p) R
def isG (n : Int) (A : List (List Int)) : Bool := decide (0 ≤ n ∧ n ≤ 10) && gl (n - 1) none A
theorem gl_ok (w : Int) (R : List (List Int)) : ∀ prev, gl w prev R = true → ∀ p ∈ R, okE w p = true := by
  induction R with
  | nil => intro prev _ p hp; cases hp
  | cons q R ih =>
    intro prev h p hp
    simp only [gl, Bool.and_eq_true] at h
    rcases List.mem_cons.1 hp with e | e
    · rw [e]; exact h.1.1
    · exact ih _ h.2 p e
theorem isG_ok {n : Int} {A : List (List Int)} (h : isG n A = true) : (0 ≤ n ∧ n ≤ 10) ∧ ∀ p ∈ A, p.length = 2 ∧ (0 ≤ rd p 0 ∧ rd p 0 < n) ∧ (0 ≤ rd p 1 ∧ rd p 1 < n) := by
  unfold isG at h
  simp only [Bool.and_eq_true, decide_eq_true_eq] at h
  refine ⟨h.1, fun p hp => ?_⟩
  have := gl_ok _ _ _ h.2 p hp
  unfold okE at this
  have := of_decide_eq_true this
  omega
def prevOf (A : List (List Int)) (i : Nat) : Option (List Int) := if i = 0 then none else some (rd_L1 A ((i - 1 : Nat) : Int))
theorem prevOf_succ (A : List (List Int)) (i : Nat) : prevOf A (i + 1) = some (rd_L1 A (i : Int)) := by unfold prevOf; rw [if_neg (by omega)]; rfl
def vicA (A : List (List Int)) (c : Int) : List Int := (A.filter fun p => rd p 0 == c).map fun p => rd p 1
def attA (A : List (List Int)) (c : Int) : List Int := (A.filter fun p => rd p 1 == c).map fun p => rd p 0
def vic (n : Int) (A : List (List Int)) (c : Int) : List Int := if isG n A = true then vicA A c else []
def att (n : Int) (A : List (List Int)) (c : Int) : List Int := if isG n A = true then attA A c else []
theorem vicA_len (A : List (List Int)) (c : Int) : (vicA A c).length ≤ A.length := by unfold vicA; rw [List.length_map]; exact List.length_filter_le _ _
theorem attA_len (A : List (List Int)) (c : Int) : (attA A c).length ≤ A.length := by unfold attA; rw [List.length_map]; exact List.length_filter_le _ _
theorem vic_len (n : Int) (A : List (List Int)) (c : Int) : (vic n A c).length ≤ A.length := by unfold vic; split; exact vicA_len A c; simp
theorem att_len (n : Int) (A : List (List Int)) (c : Int) : (att n A c).length ≤ A.length := by unfold att; split; exact attA_len A c; simp
theorem isG_len2 {n : Int} {A : List (List Int)} (h : isG n A = true) (i : Nat) (hi : i < A.length) : (rd_L1 A (i : Int)).length = 2 := ((isG_ok h).2 _ (rdL_mem A i hi)).1
theorem vicA_cons (p : List Int) (R : List (List Int)) (c : Int) : vicA (p :: R) c = if rd p 0 = c then rd p 1 :: vicA R c else vicA R c := by
  unfold vicA
  by_cases h : rd p 0 = c
  · rw [if_pos h, List.filter_cons_of_pos (by simp [h])]; rfl
  · rw [if_neg h, List.filter_cons_of_neg (by simp [h])]
theorem attA_cons (p : List Int) (R : List (List Int)) (c : Int) : attA (p :: R) c = if rd p 1 = c then rd p 0 :: attA R c else attA R c := by
  unfold attA
  by_cases h : rd p 1 = c
  · rw [if_pos h, List.filter_cons_of_pos (by simp [h])]; rfl
  · rw [if_neg h, List.filter_cons_of_neg (by simp [h])]
def hitG (n : Int) (A : List (List Int)) (S : List Int) : List Int := if isG n A = true then hit A n S else []
theorem hit_sorted (A : List (List Int)) (n : Int) (S : List Int) : (hit A n S).Pairwise (· < ·) := (cl_sorted n).sublist List.filter_sublist
theorem hit_len (A : List (List Int)) (n : Int) (S : List Int) : (hit A n S).length ≤ n.toNat := by
  unfold hit; have := List.length_filter_le (hitb A S) (cl n); rwa [cl_length] at this
theorem hitG_len (n : Int) (A : List (List Int)) (S : List Int) : (hitG n A S).length ≤ 10 := by
  unfold hitG
  split
  · rename_i h; have := hit_len A n S; have := (isG_ok h).1; omega
  · simp
theorem mem_hit {A : List (List Int)} {n : Int} {S : List Int} (h : isG n A = true) (k : Int) : k ∈ hit A n S ↔ hitb A S k = true := by
  unfold hit
  rw [List.mem_filter, mem_cl]
  constructor
  · exact fun h => h.2
  · intro hb
    refine ⟨?_, hb⟩
    obtain ⟨p, hp, e, _⟩ := (hitb_iff A S k).1 hb
    have := ((isG_ok h).2 p hp).2.2
    omega
def sl (w : Int) : Option Int → List Int → Bool
  | _, [] => true
  | prev, c :: R => decide (0 ≤ c ∧ c ≤ w) && (match prev with | none => true | some q => decide (q < c)) && sl w (some c) R
def isS (n : Int) (A : List (List Int)) (S : List Int) : Bool := isG n A && sl (n - 1) none S
def prevS (S : List Int) (i : Nat) : Option Int := if i = 0 then none else some (rd S ((i - 1 : Nat) : Int))
theorem prevS_succ (S : List Int) (i : Nat) : prevS S (i + 1) = some (rd S (i : Int)) := by unfold prevS; rw [if_neg (by omega)]; rfl
theorem drop_rdS (l : List Int) (i : Nat) (h : i < l.length) : l.drop i = rd l i :: l.drop (i + 1) := by rw [rd_nat l i h]; exact List.drop_eq_getElem_cons h
theorem sl_in (w : Int) (R : List Int) : ∀ prev, sl w prev R = true → ∀ c ∈ R, 0 ≤ c ∧ c ≤ w := by
  induction R with
  | nil => intro prev _ p hp; cases hp
  | cons q R ih =>
    intro prev h p hp
    simp only [sl, Bool.and_eq_true, decide_eq_true_eq] at h
    rcases List.mem_cons.1 hp with e | e
    · rw [e]; exact h.1.1
    · exact ih _ h.2 p e
theorem sl_sorted (w : Int) (R : List Int) : ∀ prev, sl w prev R = true → R.Pairwise (· < ·) ∧ ∀ q, prev = some q → ∀ c ∈ R, q < c := by
  induction R with
  | nil => intro prev _; exact ⟨List.Pairwise.nil, fun q _ c hc => by cases hc⟩
  | cons x R ih =>
    intro prev h
    simp only [sl, Bool.and_eq_true, decide_eq_true_eq] at h
    obtain ⟨h1, h2⟩ := ih _ h.2
    have hx := h2 x rfl
    refine ⟨List.pairwise_cons.2 ⟨hx, h1⟩, fun q hq c hc => ?_⟩
    subst hq
    have hqx : q < x := by simpa using h.1.2
    rcases List.mem_cons.1 hc with e | e
    · rw [e]; exact hqx
    · have := hx c e; omega
theorem isS_ok {n : Int} {A : List (List Int)} {S : List Int} (h : isS n A S = true) : isG n A = true ∧ (∀ c ∈ S, 0 ≤ c ∧ c < n) ∧ S.Pairwise (· < ·) := by
  unfold isS at h
  rw [Bool.and_eq_true] at h
  refine ⟨h.1, fun c hc => ?_, (sl_sorted _ _ _ h.2).1⟩
  have := sl_in _ _ _ h.2 c hc
  omega
def freeb (n : Int) (A : List (List Int)) (S : List Int) : Bool := isS n A S && S.all fun c => !decide (c ∈ hitG n A S)
theorem rd_drop (S : List Int) (i : Nat) (h : i < S.length) : S.drop i = rd S i :: S.drop (i + 1) := by rw [rd_nat S i h]; exact List.drop_eq_getElem_cons _
def defends (n : Int) (A : List (List Int)) (S : List Int) (c : Int) : Bool := isS n A S && (decide (0 ≤ c ∧ c ≤ n - 1) && (att n A c).all fun a => decide (a ∈ hitG n A S))
def dbyG (n : Int) (A : List (List Int)) (S : List Int) : List Int := if isS n A S = true then (cl n).filter (defends n A S) else []
theorem clx_at (n : Int) (i : Nat) (hi : (i : Int) < n) : (cl n).drop i = (i : Int) :: (cl n).drop (i + 1) := by
  have hl : i < (cl n).length := by rw [cl_length]; omega
  rw [List.drop_eq_getElem_cons hl]
  congr 1
  simp [cl]
theorem dbyG_len (n : Int) (A : List (List Int)) (S : List Int) : (dbyG n A S).length ≤ 10 := by
  unfold dbyG
  split
  · rename_i h
    have := (isG_ok (isS_ok h).1).1
    have h2 := List.length_filter_le (defends n A S) (cl n)
    rw [cl_length] at h2; omega
  · simp
theorem sl_mk (m : Int) : ∀ (S : List Int) (q : Option Int), (∀ c ∈ S, 0 ≤ c ∧ c ≤ m) → S.Pairwise (· < ·) → (∀ x, q = some x → ∀ c ∈ S, x < c) → sl m q S = true := by
  intro S
  induction S with
  | nil => intro q _ _ _; simp [sl]
  | cons c S ih =>
    intro q h1 h2 h3
    rw [List.pairwise_cons] at h2
    have hc := h1 c (List.mem_cons_self ..)
    have hi := ih (some c) (fun x hx => h1 x (List.mem_cons_of_mem _ hx)) h2.2 (fun x e d hd => by cases e; exact h2.1 d hd)
    cases q with
    | none => simp [sl, hc, hi]
    | some x =>
      have := h3 x rfl c (List.mem_cons_self ..)
      simp [sl, hc, hi, this]
theorem isS_mk {n : Int} {A : List (List Int)} {S : List Int} (hg : isG n A = true) (h1 : ∀ c ∈ S, 0 ≤ c ∧ c < n) (h2 : S.Pairwise (· < ·)) : isS n A S = true := by
  unfold isS
  rw [hg, Bool.true_and]
  exact sl_mk (n - 1) S none (fun c hc => by have := h1 c hc; omega) h2 (fun x e => by cases e)
theorem defends_defb {n : Int} {A : List (List Int)} {S : List Int} {c : Int} (hs : isS n A S = true) (hc : c ∈ cl n) : defends n A S c = defb A S c := by
  have hg := (isS_ok hs).1
  rw [mem_cl] at hc
  unfold defends
  rw [hs, Bool.true_and, decide_eq_true (by omega), Bool.true_and]
  rw [Bool.eq_iff_iff, defb_iff]
  unfold att hitG; rw [if_pos hg, if_pos hg]; unfold attA
  simp only [List.all_eq_true, decide_eq_true_eq, List.mem_map, List.mem_filter, beq_iff_eq]
  constructor
  · intro h p hp e
    exact (mem_hit hg _).1 (h _ ⟨p, ⟨hp, e⟩, rfl⟩)
  · rintro h a ⟨p, ⟨hp, e⟩, rfl⟩
    exact (mem_hit hg _).2 (h p hp e)
theorem dbyG_dby {n : Int} {A : List (List Int)} {S : List Int} (hs : isS n A S = true) : dbyG n A S = dby A n S := by
  unfold dbyG dby
  rw [if_pos hs]
  exact List.filter_congr fun c hc => defends_defb hs hc
theorem dby_isS {n : Int} {A : List (List Int)} (hg : isG n A = true) (S : List Int) : isS n A (dby A n S) = true :=
  isS_mk hg (fun c hc => (mem_cl n c).1 (List.mem_filter.1 hc).1) ((cl_sorted n).sublist List.filter_sublist)
theorem ite_isS {n : Int} {A : List (List Int)} (hg : isG n A = true) (m : Nat) : isS n A (ite_d A n m) = true := by
  cases m with
  | zero => exact isS_mk hg (fun c hc => by cases hc) List.Pairwise.nil
  | succ m => exact dby_isS hg _
theorem dbyG_ite {n : Int} {A : List (List Int)} (hg : isG n A = true) (m : Nat) : dbyG n A (ite_d A n m) = ite_d A n (m + 1) := dbyG_dby (ite_isS hg m)
def grd (n : Int) (A : List (List Int)) : List Int := if isG n A = true then ite_d A n n.toNat else []
theorem grd_len (n : Int) (A : List (List Int)) : (grd n A).length ≤ 10 := by
  unfold grd
  split
  · rename_i h; have := ite_le A n n.toNat; have := (isG_ok h).1; omega
  · simp
theorem grd_stop {n : Int} {A : List (List Int)} (hg : isG n A = true) : ∃ m, m ≤ 10 ∧ ite_d A n (m + 1) = ite_d A n m ∧ ite_d A n m = grd n A ∧ ∀ j, j < m → ite_d A n (j + 1) ≠ ite_d A n j := by
  obtain ⟨m, hm, e, h⟩ := ite_least A n
  have hn := (isG_ok hg).1
  refine ⟨m, by omega, e, ?_, h⟩
  unfold grd; rw [if_pos hg]
  have := ite_const A n m e (n.toNat - m)
  rw [show m + (n.toNat - m) = n.toNat by omega] at this
  exact this.symm
def wIn : ByteArray := ⟨#[105, 110]⟩
def wOut : ByteArray := ⟨#[111, 117, 116]⟩
def wOpen : ByteArray := ⟨#[111, 112, 101, 110]⟩
def lab (I H : List Int) (c : Int) : ByteArray := if c ∈ I then wIn else if c ∈ H then wOut else wOpen
def labs (n : Int) (A : List (List Int)) : List ByteArray := if isG n A = true then (cl n).map (lab (grd n A) (hitG n A (grd n A))) else []
theorem labs_len (n : Int) (A : List (List Int)) : (labs n A).length ≤ 10 := by
  unfold labs
  split
  · rename_i h; rw [List.length_map, cl_length]; have := (isG_ok h).1; omega
  · simp
theorem cly_at (n : Int) (i : Nat) (hi : (i : Int) < n) : (cl n).drop i = (i : Int) :: (cl n).drop (i + 1) := by
  have hl : i < (cl n).length := by rw [cl_length]; omega
  rw [List.drop_eq_getElem_cons hl]
  congr 1
  simp [cl]
theorem spec_l1In_eq (a b c : Int) : spec_l1In.f a b c = some (decide (b ≤ a ∧ a ≤ c)) := by
  unfold spec_l1In.f; by_cases h : b ≤ a <;> simp [h]
theorem spec_IsGraph_l (n : Int) (A : List (List Int)) (hA : A.length ≤ 1048576) : ∀ (d k i : Nat), i + d = A.length → (∀ j, j < i → (rd_L1 A (j : Int)).length = 2) → 2 * d + 1 < k →
    spec_IsGraph.l0 k i n A = some (gl (wrap64 (n - 1)) (prevOf A i) (A.drop i) && decide (0 ≤ n ∧ n ≤ 10)) := by
  generalize hw : wrap64 (n - 1) = w
  intro d
  induction d with
  | zero =>
    intro k i hd hp hk
    obtain ⟨k, rfl⟩ := rounds_succ hk
    simp only [spec_IsGraph.l0]; rw [if_neg (by omega), List.drop_eq_nil_of_le (by omega), spec_l1In_eq, Option.bind_some]
    simp [gl]
  | succ d ih =>
    intro k i hd hp hk
    obtain ⟨k, rfl⟩ := rounds_succ hk
    obtain ⟨k, rfl⟩ := rounds_succ (show 0 < k by omega)
    simp only [spec_IsGraph.l0]; rw [if_pos (by omega), if_pos (by omega), hw, rdL_drop A i (by omega)]
    simp only [gl]
    generalize hq : rd_L1 A (i : Int) = p
    by_cases h2 : p.length = 2
    · rw [if_pos (by omega), if_pos (by omega), spec_l1In_eq, Option.bind_some]
      by_cases h3 : 0 ≤ rd p 0 ∧ rd p 0 ≤ w
      · rw [if_pos (by simp [h3]), if_pos (by omega), spec_l1In_eq, Option.bind_some]
        by_cases h4 : 0 ≤ rd p 1 ∧ rd p 1 ≤ w
        · have hok : okE w p = true := by unfold okE; simp [h2, h3, h4]
          have hnext := ih k (i + 1) (by omega) (fun j hj => by
            by_cases e : j = i
            · rw [e, hq]; exact h2
            · exact hp j (by omega)) (by omega)
          rw [prevOf_succ, hq] at hnext
          simp only [spec_IsGraph.j1, hok, Bool.true_and]
          rw [if_neg (by simp [h4])]
          by_cases hi : i = 0
          · subst hi
            rw [if_neg (by omega)]
            rw [show wrap64 (((0 : Nat) : Int) + 1) = ((0 + 1 : Nat) : Int) from wrs (by omega), hnext]
            simp [prevOf]
          · have e1 : prevOf A i = some (rd_L1 A ((i - 1 : Nat) : Int)) := by unfold prevOf; rw [if_neg hi]
            have hl := hp (i - 1) (by omega)
            rw [e1]
            rw [if_pos (by omega), show wrap64 ((i : Int) - 1) = ((i - 1 : Nat) : Int) by rw [wr (by omega) (by omega)]; omega]
            generalize rd_L1 A ((i - 1 : Nat) : Int) = q at hl ⊢
            rw [if_pos (by omega), if_pos (by omega), if_pos (by omega), if_pos (by omega), wrs (by omega), hnext]
            by_cases h5 : rd q 0 > rd p 0
            · rw [if_pos h5]
              have : lexlt q p = false := by unfold lexlt; simp; omega
              simp [this]
            · rw [if_neg h5]
              by_cases h6 : rd q 0 = rd p 0
              · rw [if_pos h6, if_pos (by omega), if_pos (by omega)]
                by_cases h7 : rd q 1 ≥ rd p 1
                · rw [if_pos h7]
                  have : lexlt q p = false := by unfold lexlt; simp; omega
                  simp [this]
                · rw [if_neg h7]
                  have : lexlt q p = true := by unfold lexlt; simp; omega
                  simp [this]
              · rw [if_neg h6]
                have : lexlt q p = true := by unfold lexlt; simp; omega
                simp [this]
        · have hok : okE w p = false := by unfold okE; simp; omega
          simp only [spec_IsGraph.j1, hok, Bool.false_and]
          rw [if_pos (by simp; omega)]
      · have hok : okE w p = false := by unfold okE; simp; omega
        rw [if_neg (by simp; omega)]
        simp [spec_IsGraph.j1, hok]
    · have hok : okE w p = false := by unfold okE; simp [h2]
      rw [if_neg (by omega)]
      simp [spec_IsGraph.j1, hok]
theorem spec_IsGraph_eq (n : Int) (A : List (List Int)) (hA : A.length ≤ 1048576) (k : Nat) (hk : 2 * A.length + 1 < k) : spec_IsGraph.f k n A = some (isG n A) := by
  have := spec_IsGraph_l n A hA A.length k 0 (by omega) (fun j hj => by omega) hk
  unfold spec_IsGraph.f isG
  rw [show ((0 : Nat) : Int) = 0 from rfl] at this
  rw [this]
  by_cases h : 0 ≤ n ∧ n ≤ 10
  · rw [wr (i := n - 1) (by omega) (by omega)]; simp [h, prevOf]
  · simp [h]
theorem spec_IsSet_l (n : Int) (A : List (List Int)) (S : List Int) (hS : S.length ≤ 1048576) (hn : 0 ≤ n ∧ n ≤ 10) : ∀ (d k i : Nat), i + d = S.length → d < k → spec_IsSet.l0 k S i n A = some (sl (n - 1) (prevS S i) (S.drop i)) := by
  intro d
  induction d with
  | zero =>
    intro k i hd hk
    obtain ⟨k, rfl⟩ := rounds_succ hk
    simp only [spec_IsSet.l0]; rw [if_neg (by omega), List.drop_eq_nil_of_le (by omega)]
    simp [sl]
  | succ d ih =>
    intro k i hd hk
    obtain ⟨k, rfl⟩ := rounds_succ hk
    have hnext := ih k (i + 1) (by omega) (by omega)
    rw [prevS_succ] at hnext
    simp only [spec_IsSet.l0]; rw [if_pos (by omega), if_pos (by omega), wr (i := n - 1) (by omega) (by omega), spec_l1In_eq, Option.bind_some, wrs (by omega), hnext, drop_rdS S i (by omega)]
    simp only [sl]
    generalize rd S (i : Int) = c
    by_cases h1 : 0 ≤ c ∧ c ≤ n - 1
    · rw [if_pos (by simp only [h1, and_self, decide_true])]
      simp only [h1, and_self, decide_true, Bool.true_and]
      by_cases hi : i = 0
      · subst hi
        rw [if_neg (by omega)]; simp [prevS]
      · have e1 : prevS S i = some (rd S ((i - 1 : Nat) : Int)) := by unfold prevS; rw [if_neg hi]
        rw [e1, if_pos (by omega), show wrap64 ((i : Int) - 1) = ((i - 1 : Nat) : Int) by rw [wr (by omega) (by omega)]; omega, if_pos (by omega), if_pos (by omega)]
        generalize rd S ((i - 1 : Nat) : Int) = q
        by_cases h2 : q ≥ c
        · rw [if_pos h2]
          have : decide (q < c) = false := by simp; omega
          simp [this]
        · rw [if_neg h2]
          have : decide (q < c) = true := by simp; omega
          simp [this]
    · rw [if_neg (by simp only [h1, decide_false, Bool.false_eq_true, not_false_eq_true])]; simp [h1]
theorem spec_IsSet_eq (n : Int) (A : List (List Int)) (S : List Int) (hA : A.length ≤ 1048576) (hS : S.length ≤ 1048576) (k : Nat) (hk : 2 * A.length + S.length + 1 < k) : spec_IsSet.f k n A S = some (isS n A S) := by
  unfold spec_IsSet.f isS
  rw [spec_IsGraph_eq n A hA k (by omega), Option.bind_some]
  by_cases h : isG n A = true
  · have := spec_IsSet_l n A S hS (isG_ok h).1 S.length k 0 (by omega) (by omega)
    rw [show ((0 : Nat) : Int) = 0 from rfl] at this
    rw [if_pos h, this, h]; simp [prevS]
  · rw [if_neg h]; simp [h]
theorem spec_l4Has_l (S : List Int) (c : Int) (hS : S.length ≤ 1099511627776) : ∀ (d k i : Nat), i + d = S.length → d < k → spec_l4Has.l0 k S c i = some (decide (c ∈ S.drop i)) := by
  intro d
  induction d with
  | zero =>
    intro k i hd hk
    obtain ⟨k, rfl⟩ := rounds_succ hk
    simp only [spec_l4Has.l0]; rw [if_neg (by omega), List.drop_eq_nil_of_le (by omega)]; simp
  | succ d ih =>
    intro k i hd hk
    obtain ⟨k, rfl⟩ := rounds_succ hk
    simp only [spec_l4Has.l0]; rw [if_pos (by omega), if_pos (by omega), wrs (by omega), ih k (i + 1) (by omega) (by omega)]
    have e : S.drop i = rd S i :: S.drop (i + 1) := by rw [rd_nat S i (by omega)]; exact List.drop_eq_getElem_cons _
    rw [e]
    by_cases h : rd S (i : Int) = c
    · rw [if_pos h]; simp [h]
    · rw [if_neg h]
      have : ¬ c = rd S (i : Int) := fun e => h e.symm
      simp [this]
theorem spec_l4Has_eq (S : List Int) (c : Int) (hS : S.length ≤ 1099511627776) (k : Nat) (hk : S.length < k) : spec_l4Has.f k S c = some (decide (c ∈ S)) := by
  have := spec_l4Has_l S c hS S.length k 0 (by omega) hk
  unfold spec_l4Has.f
  simpa using this
theorem hitb_drop (A : List (List Int)) (S : List Int) (k : Int) (i : Nat) (hi : i < A.length) : hitb (A.drop i) S k = (((rd (rd_L1 A (i : Int)) 1 == k) && S.contains (rd (rd_L1 A (i : Int)) 0)) || hitb (A.drop (i + 1)) S k) := by
  rw [rdL_drop A i hi]; unfold hitb; rw [List.any_cons]
theorem cl_from (n : Int) (i : Nat) (hi : (i : Int) < n) : (cl n).drop i = (i : Int) :: (cl n).drop (i + 1) := by
  have hl : i < (cl n).length := by rw [cl_length]; omega
  rw [List.drop_eq_getElem_cons hl]
  congr 1
  simp [cl]
theorem spec_HitBy_l1 (n : Int) (A : List (List Int)) (S : List Int) (c : Int) (o : List Int) (hA : A.length ≤ 1048576) (hS : S.length ≤ 1048576) (hg : isG n A = true) : ∀ (d k i : Nat) (b : Bool), i + d = A.length → o.length ≤ 16 → d + S.length + 1 < k → spec_HitBy.l1 k S o c b i n A = spec_HitBy.l0 (k - d - 1) S (if (b || hitb (A.drop i) S c) = true then o ++ [c] else o) (wrap64 (c + 1)) n A := by
  intro d
  induction d with
  | zero =>
    intro k i b hd ho hk
    obtain ⟨k, rfl⟩ := rounds_succ hk
    simp only [spec_HitBy.l1]; rw [if_neg (by omega), List.drop_eq_nil_of_le (by omega)]
    have : hitb [] S c = false := rfl
    rw [this, Bool.or_false]
    cases b
    · simp
    · simp; omega
  | succ d ih =>
    intro k i b hd ho hk
    obtain ⟨k, rfl⟩ := rounds_succ hk
    have h2 := isG_len2 hg i (by omega)
    rw [show k + 1 - (d + 1) - 1 = k - d - 1 by omega]
    simp only [spec_HitBy.l1]; rw [if_pos (by omega), wrs (by omega)]
    cases b with
    | true =>
      rw [if_pos rfl, ih k (i + 1) true (by omega) ho (by omega)]; simp
    | false =>
      rw [if_neg (by simp), if_pos (by omega), hitb_drop A S c i (by omega)]
      generalize rd_L1 A (i : Int) = p at h2 ⊢
      rw [if_pos (by omega)]
      by_cases h : rd p 1 = c
      · rw [if_pos h, if_pos (by omega), spec_l4Has_eq S _ (by omega) k (by omega), Option.bind_some, ih k (i + 1) _ (by omega) ho (by omega)]
        simp [h]
      · rw [if_neg h, ih k (i + 1) false (by omega) ho (by omega)]
        simp [h]
theorem spec_HitBy_l0 (n : Int) (A : List (List Int)) (S : List Int) (hA : A.length ≤ 1048576) (hS : S.length ≤ 1048576) (hg : isG n A = true) : ∀ (d k i : Nat) (o : List Int), i + d = n.toNat → o.length ≤ i → d * (A.length + 3) + 2 * A.length + S.length + 9 < k → spec_HitBy.l0 k S o i n A = some (o ++ ((cl n).drop i).filter (hitb A S)) := by
  have hn := (isG_ok hg).1
  intro d
  induction d with
  | zero =>
    intro k i o hd ho hk
    obtain ⟨k, rfl⟩ := rounds_succ hk
    obtain ⟨k, rfl⟩ := rounds_succ (show 0 < k by omega)
    simp only [spec_HitBy.l0, spec_HitBy.j1]; rw [if_neg (by omega), if_neg (by simp), List.drop_eq_nil_of_le (by rw [cl_length]; omega)]; simp
  | succ d ih =>
    intro k i o hd ho hk
    rw [Nat.succ_mul] at hk
    obtain ⟨k, rfl⟩ := rounds_succ hk
    obtain ⟨k, rfl⟩ := rounds_succ (show 0 < k by omega)
    simp only [spec_HitBy.l0]; rw [if_pos (by omega), spec_IsGraph_eq n A hA (k + 1) (by omega), Option.bind_some, hg]
    simp only [spec_HitBy.j1]; rw [if_pos trivial, show (0 : Int) = ((0 : Nat) : Int) from rfl, spec_HitBy_l1 n A S i o hA hS hg A.length k 0 false (by omega) (by omega) (by omega), wrs (by omega), Bool.false_or, List.drop_zero]
    by_cases h : hitb A S (i : Int) = true
    · rw [if_pos h, ih _ (i + 1) _ (by omega) (by rw [List.length_append, List.length_singleton]; omega) (by omega), cl_from n i (by omega), List.filter_cons_of_pos h, List.append_assoc]; rfl
    · rw [if_neg h, ih _ (i + 1) _ (by omega) (by omega) (by omega), cl_from n i (by omega), List.filter_cons_of_neg h]
theorem spec_HitBy_eq (n : Int) (A : List (List Int)) (S : List Int) (hA : A.length ≤ 1048576) (hS : S.length ≤ 1048576) (k : Nat) (hk : 12 * A.length + S.length + 40 < k) : spec_HitBy.f k n A S = some (hitG n A S) := by
  unfold spec_HitBy.f hitG
  by_cases h : isG n A = true
  · rw [if_pos h]
    have hn := (isG_ok h).1
    have hm : n.toNat * (A.length + 3) ≤ 10 * (A.length + 3) := Nat.mul_le_mul_right _ (by omega)
    have := spec_HitBy_l0 n A S hA hS h n.toNat k 0 [] (by omega) (by simp) (by omega)
    simpa [hit] using this
  · rw [if_neg h]
    obtain ⟨k, rfl⟩ := rounds_succ hk
    obtain ⟨k, rfl⟩ := rounds_succ (show 0 < k by omega)
    have hf : isG n A = false := by simpa using h
    simp only [spec_HitBy.l0]
    rw [spec_IsGraph_eq n A hA (k + 1) (by omega), Option.bind_some, hf]
    simp only [spec_HitBy.j1]
    split <;> simp
theorem spec_AttackersOf_l (n : Int) (A : List (List Int)) (c : Int) (hA : A.length ≤ 1048576) (hg : isG n A = true) : ∀ (d k i : Nat) (o : List Int), i + d = A.length → o.length ≤ i → 2 * d + 2 * A.length + 3 < k → spec_AttackersOf.l0 k c o i n A = some (o ++ attA (A.drop i) c) := by
  intro d
  induction d with
  | zero =>
    intro k i o hd ho hk
    obtain ⟨k, rfl⟩ := rounds_succ hk
    obtain ⟨k, rfl⟩ := rounds_succ (show 0 < k by omega)
    simp only [spec_AttackersOf.l0, spec_AttackersOf.j1]; rw [if_neg (by omega), if_neg (by simp), List.drop_eq_nil_of_le (by omega)]; simp [attA]
  | succ d ih =>
    intro k i o hd ho hk
    obtain ⟨k, rfl⟩ := rounds_succ hk
    obtain ⟨k, rfl⟩ := rounds_succ (show 0 < k by omega)
    have h2 := isG_len2 hg i (by omega)
    simp only [spec_AttackersOf.l0]; rw [if_pos (by omega), spec_IsGraph_eq n A hA (k + 1) (by omega), Option.bind_some, hg]
    simp only [spec_AttackersOf.j1]; rw [if_pos trivial, if_pos (by omega), if_pos (by omega), if_pos (by omega), wrs (by omega), rdL_drop A i (by omega)]
    generalize rd_L1 A (i : Int) = p at h2 ⊢
    by_cases h : rd p 1 = c
    · rw [if_pos h, if_pos (by omega), if_pos (by omega), ih k (i + 1) _ (by omega) (by rw [List.length_append, List.length_singleton]; omega) (by omega)]
      simp [attA, h]
    · rw [if_neg h, ih k (i + 1) _ (by omega) (by omega) (by omega)]
      simp [attA, h]
theorem spec_AttackersOf_eq (n : Int) (A : List (List Int)) (c : Int) (hA : A.length ≤ 1048576) (k : Nat) (hk : 4 * A.length + 3 < k) : spec_AttackersOf.f k n A c = some (att n A c) := by
  unfold spec_AttackersOf.f att
  by_cases h : isG n A = true
  · rw [if_pos h]
    have := spec_AttackersOf_l n A c hA h A.length k 0 [] (by omega) (by simp) (by omega)
    simpa using this
  · rw [if_neg h]
    obtain ⟨k, rfl⟩ := rounds_succ hk
    obtain ⟨k, rfl⟩ := rounds_succ (show 0 < k by omega)
    have hf : isG n A = false := by simpa using h
    simp only [spec_AttackersOf.l0]
    rw [spec_IsGraph_eq n A hA (k + 1) (by omega), Option.bind_some, hf]
    simp only [spec_AttackersOf.j1]
    split <;> simp
theorem spec_Defends_l (H L : List Int) (hH : H.length ≤ 10) (hL : L.length ≤ 1048576) : ∀ (d k i : Nat), i + d = L.length → d + 20 < k → spec_Defends.l0 k H L i = some ((L.drop i).all fun a => decide (a ∈ H)) := by
  intro d
  induction d with
  | zero =>
    intro k i hd hk
    obtain ⟨k, rfl⟩ := rounds_succ hk
    simp only [spec_Defends.l0]; rw [if_neg (by omega), List.drop_eq_nil_of_le (by omega)]; simp
  | succ d ih =>
    intro k i hd hk
    obtain ⟨k, rfl⟩ := rounds_succ hk
    simp only [spec_Defends.l0]; rw [if_pos (by omega), if_pos (by omega), spec_l4Has_eq H _ (by omega) k (by omega), Option.bind_some, wrs (by omega), ih k (i + 1) (by omega) (by omega), rd_drop L i (by omega), List.all_cons]
    by_cases h : rd L (i : Int) ∈ H
    · rw [if_pos (by simpa using h)]; simp [h]
    · rw [if_neg (by simpa using h)]; simp [h]
theorem spec_Defends_eq (n : Int) (A : List (List Int)) (S : List Int) (c : Int) (hA : A.length ≤ 1048576) (hS : S.length ≤ 1048576) (k : Nat) (hk : 12 * A.length + S.length + 60 < k) : spec_Defends.f k n A S c = some (defends n A S c) := by
  obtain ⟨k, rfl⟩ := rounds_succ hk
  unfold spec_Defends.f defends
  rw [spec_IsSet_eq n A S hA hS (k + 1) (by omega), Option.bind_some]
  simp only [spec_Defends.j0]
  by_cases h : isS n A S = true
  · have hn := (isG_ok (isS_ok h).1).1
    have hl := att_len n A c
    rw [if_pos h, wr (i := n - 1) (by omega) (by omega), spec_l1In_eq, Option.bind_some, h, Bool.true_and]
    by_cases h1 : 0 ≤ c ∧ c ≤ n - 1
    · have := spec_Defends_l (hitG n A S) (att n A c) (hitG_len n A S) (by omega) (att n A c).length k 0 (by omega) (by omega)
      simp only [List.drop_zero, Int.natCast_zero] at this
      rw [if_neg (by simp [h1]), spec_HitBy_eq n A S hA hS k (by omega), Option.bind_some, spec_AttackersOf_eq n A c hA k (by omega), Option.bind_some, this]
      simp [h1]
    · have h1b : decide (0 ≤ c ∧ c ≤ n - 1) = false := decide_eq_false h1
      rw [h1b]; simp
  · rw [if_neg h]; simp [h]
theorem spec_DefendedBy_l (n : Int) (A : List (List Int)) (S : List Int) (hA : A.length ≤ 1048576) (hS : S.length ≤ 1048576) (hs : isS n A S = true) : ∀ (d k i : Nat) (o : List Int), i + d = n.toNat → o.length ≤ i → 2 * d + 12 * A.length + 2 * S.length + 80 < k → spec_DefendedBy.l0 k S o i n A = some (o ++ ((cl n).drop i).filter (defends n A S)) := by
  have hn := (isG_ok (isS_ok hs).1).1
  intro d
  induction d with
  | zero =>
    intro k i o hd ho hk
    obtain ⟨k, rfl⟩ := rounds_succ hk
    obtain ⟨k, rfl⟩ := rounds_succ (show 0 < k by omega)
    simp only [spec_DefendedBy.l0, spec_DefendedBy.j1]; rw [if_neg (by omega), if_neg (by simp), List.drop_eq_nil_of_le (by rw [cl_length]; omega)]; simp
  | succ d ih =>
    intro k i o hd ho hk
    obtain ⟨k, rfl⟩ := rounds_succ hk
    obtain ⟨k, rfl⟩ := rounds_succ (show 0 < k by omega)
    simp only [spec_DefendedBy.l0]; rw [if_pos (by omega), spec_IsSet_eq n A S hA hS (k + 1) (by omega), Option.bind_some, hs]
    simp only [spec_DefendedBy.j1]; rw [if_pos trivial, spec_Defends_eq n A S _ hA hS k (by omega), Option.bind_some, wrs (by omega), clx_at n i (by omega)]
    by_cases h : defends n A S (i : Int) = true
    · rw [if_pos h, if_pos (by omega), ih k (i + 1) _ (by omega) (by rw [List.length_append, List.length_singleton]; omega) (by omega), List.filter_cons_of_pos h, List.append_assoc]; rfl
    · rw [if_neg h, ih k (i + 1) _ (by omega) (by omega) (by omega), List.filter_cons_of_neg h]
theorem spec_DefendedBy_eq (n : Int) (A : List (List Int)) (S : List Int) (hA : A.length ≤ 1048576) (hS : S.length ≤ 1048576) (k : Nat) (hk : 12 * A.length + 2 * S.length + 120 < k) : spec_DefendedBy.f k n A S = some (dbyG n A S) := by
  unfold spec_DefendedBy.f dbyG
  by_cases hs : isS n A S = true
  · have hn := (isG_ok (isS_ok hs).1).1
    have := spec_DefendedBy_l n A S hA hS hs n.toNat k 0 [] (by omega) (by simp) (by omega)
    rw [if_pos hs]
    simpa using this
  · have hf : isS n A S = false := by simpa using hs
    obtain ⟨k, rfl⟩ := rounds_succ hk
    obtain ⟨k, rfl⟩ := rounds_succ (show 0 < k by omega)
    simp only [spec_DefendedBy.l0]
    rw [spec_IsSet_eq n A S hA hS (k + 1) (by omega), Option.bind_some, hf]
    simp only [spec_DefendedBy.j1]
    split <;> simp
theorem spec_EqualInts_l (a b : List Int) (hl : a.length ≤ 1048576) (hab : a.length = b.length) : ∀ (d k i : Nat), (∀ j, j < i → a[j]? = b[j]?) → i + d = a.length → d < k → spec_EqualInts.l0 k a b i = some (decide (a = b)) := by
  intro d
  induction d with
  | zero =>
    intro k i hp hd hk
    obtain ⟨k, rfl⟩ := rounds_succ hk
    simp only [spec_EqualInts.l0]; rw [if_neg (by omega)]
    have : a = b := by
      refine List.ext_getElem? fun j => ?_
      by_cases hj : j < i
      · exact hp j hj
      · rw [List.getElem?_eq_none (by omega), List.getElem?_eq_none (by omega)]
    simp [this]
  | succ d ih =>
    intro k i hp hd hk
    obtain ⟨k, rfl⟩ := rounds_succ hk
    simp only [spec_EqualInts.l0]; rw [if_pos (by omega), if_pos (by omega), if_pos (by omega)]
    by_cases e : rd a i = rd b i
    · rw [if_pos e, wrs (by omega)]
      refine ih k (i + 1) ?_ (by omega) (by omega)
      intro j hj
      by_cases e' : j = i
      · subst e'; rw [rd_some a j (by omega), rd_some b j (by omega), e]
      · exact hp j (by omega)
    · rw [if_neg e]
      have : ¬ a = b := fun h => e (by rw [h])
      simp [this]
theorem spec_EqualInts_eq (a b : List Int) (hl : a.length ≤ 1048576) (k : Nat) (hk : a.length < k) : spec_EqualInts.f k a b = some (decide (a = b)) := by
  unfold spec_EqualInts.f
  by_cases h : a.length = b.length
  · rw [if_pos (by omega)]
    exact spec_EqualInts_l a b hl h a.length k 0 (fun j hj => by omega) (by omega) hk
  · rw [if_neg (by omega)]
    have : ¬ a = b := fun e => h (by rw [e])
    simp [this]
theorem spec_Grounded_l (n : Int) (A : List (List Int)) (hA : A.length ≤ 1048576) (hg : isG n A = true) (m : Nat) (hm : m ≤ 10) (e : ite_d A n (m + 1) = ite_d A n m) (hne : ∀ j, j < m → ite_d A n (j + 1) ≠ ite_d A n j) : ∀ (d k j : Nat), j + d = m → d + 12 * A.length + 300 < k → spec_Grounded.l0 k (ite_d A n j) n A = some (ite_d A n m) := by
  intro d
  have hn := (isG_ok hg).1
  induction d with
  | zero =>
    intro k j hd hk
    obtain ⟨k, rfl⟩ := rounds_succ hk
    have hj : j = m := by omega
    subst hj
    have h1 := ite_le A n j
    have h2 := ite_le A n (j + 1)
    simp only [spec_Grounded.l0]
    rw [spec_DefendedBy_eq n A _ hA (by omega) k (by omega), Option.bind_some, dbyG_ite hg, spec_EqualInts_eq _ _ (by omega) k (by omega), Option.bind_some, if_pos (by simpa using e), e]
  | succ d ih =>
    intro k j hd hk
    obtain ⟨k, rfl⟩ := rounds_succ hk
    have h1 := ite_le A n j
    have h2 := ite_le A n (j + 1)
    simp only [spec_Grounded.l0]
    rw [spec_DefendedBy_eq n A _ hA (by omega) k (by omega), Option.bind_some, dbyG_ite hg, spec_EqualInts_eq _ _ (by omega) k (by omega), Option.bind_some, if_neg (by simpa using hne j (by omega))]
    exact ih k (j + 1) (by omega) (by omega)
theorem spec_Grounded_eq (n : Int) (A : List (List Int)) (hA : A.length ≤ 1048576) (k : Nat) (hk : 12 * A.length + 320 < k) : spec_Grounded.f k n A = some (grd n A) := by
  unfold spec_Grounded.f
  by_cases hg : isG n A = true
  · obtain ⟨m, hm, e, em, hne⟩ := grd_stop hg
    rw [← em]
    exact spec_Grounded_l n A hA hg m hm e hne m k 0 (by omega) (by omega)
  · obtain ⟨k, rfl⟩ := rounds_succ hk
    have hz : dbyG n A [] = [] := by
      unfold dbyG isS
      have : isG n A = false := by simpa using hg
      rw [this]; rfl
    simp only [spec_Grounded.l0]
    rw [spec_DefendedBy_eq n A [] hA (by simp) k (by simp; omega), Option.bind_some, hz, spec_EqualInts_eq _ _ (by simp) k (by simp; omega), Option.bind_some]
    unfold grd; rw [if_neg hg]; simp
theorem spec_Labels_l (n : Int) (A : List (List Int)) (I H : List Int) (hA : A.length ≤ 1048576) (hg : isG n A = true) (hI : I.length ≤ 10) (hH : H.length ≤ 10) : ∀ (d k i : Nat) (o : List ByteArray), i + d = n.toNat → o.length ≤ i → 2 * d + 2 * A.length + 40 < k → spec_Labels.l0 k o I H i n A = some (o ++ ((cl n).drop i).map (lab I H)) := by
  have hn := (isG_ok hg).1
  intro d
  induction d with
  | zero =>
    intro k i o hd ho hk
    obtain ⟨k, rfl⟩ := rounds_succ hk
    obtain ⟨k, rfl⟩ := rounds_succ (show 0 < k by omega)
    simp only [spec_Labels.l0, spec_Labels.j1]; rw [if_neg (by omega), if_neg (by simp), List.drop_eq_nil_of_le (by rw [cl_length]; omega)]; simp
  | succ d ih =>
    intro k i o hd ho hk
    obtain ⟨k, rfl⟩ := rounds_succ hk
    obtain ⟨k, rfl⟩ := rounds_succ (show 0 < k by omega)
    have hx := fun w => ih k (i + 1) (o ++ [w]) (by omega) (by rw [List.length_append, List.length_singleton]; omega) (by omega)
    simp only [spec_Labels.l0]; rw [if_pos (by omega), spec_IsGraph_eq n A hA (k + 1) (by omega), Option.bind_some, hg]
    simp only [spec_Labels.j1]; rw [if_pos trivial, spec_l4Has_eq I _ (by omega) k (by omega), Option.bind_some, spec_l4Has_eq H _ (by omega) k (by omega), Option.bind_some, wrs (by omega), hx, hx, hx, cly_at n i (by omega), List.map_cons]
    unfold lab
    by_cases h : (i : Int) ∈ I
    · rw [if_pos (by simpa using h), if_pos (by omega), if_pos h, List.append_assoc]; rfl
    · rw [if_neg (by simpa using h), if_neg h]
      by_cases h2 : (i : Int) ∈ H
      · rw [if_pos (by simpa using h2), if_pos (by omega), if_pos h2, List.append_assoc]; rfl
      · rw [if_neg (by simpa using h2), if_pos (by omega), if_neg h2, List.append_assoc]; rfl
theorem spec_Labels_eq (n : Int) (A : List (List Int)) (hA : A.length ≤ 1048576) (k : Nat) (hk : 12 * A.length + 400 < k) : spec_Labels.f k n A = some (labs n A) := by
  have hl := grd_len n A
  unfold spec_Labels.f labs
  rw [spec_Grounded_eq n A hA k (by omega), Option.bind_some, spec_HitBy_eq n A _ hA (by omega) k (by omega), Option.bind_some]
  by_cases hg : isG n A = true
  · have hn := (isG_ok hg).1
    have := spec_Labels_l n A (grd n A) (hitG n A (grd n A)) hA hg hl (hitG_len n A _) n.toNat k 0 [] (by omega) (by simp) (by omega)
    rw [if_pos hg]
    simpa using this
  · obtain ⟨k, rfl⟩ := rounds_succ hk
    obtain ⟨k, rfl⟩ := rounds_succ (show 0 < k by omega)
    have hf : isG n A = false := by simpa using hg
    simp only [spec_Labels.l0]
    rw [spec_IsGraph_eq n A hA (k + 1) (by omega), Option.bind_some, hf]
    simp only [spec_Labels.j1]
    split <;> simp
theorem impl_InRange_eq (a b c : Int) : impl_InRange.f a b c = some (decide (b ≤ a ∧ a ≤ c)) := by
  unfold impl_InRange.f; by_cases h : b ≤ a <;> simp [h]
theorem cmpi_eq (a b : Int) : cmp_Compare_int.f a b = some (if a < b then -1 else if a > b then 1 else 0) := by
  unfold cmp_Compare_int.f cmp_isNaN_int.f
  simp only [Option.bind_some, bne_self_eq_false, Bool.false_eq_true, if_false]
  split
  · rfl
  · split <;> rfl
theorem cmp2_eq (p q : List Int) (hp : p.length = 2) (hq : q.length = 2) (k : Nat) (hk : 3 < k) : ∃ t, slices_Compare_int_int.f k p q = some t ∧ (t ≥ 0 ↔ lexlt p q = false) := by
  obtain ⟨k, rfl⟩ : ∃ m, k = m + 3 := ⟨k - 3, by omega⟩
  have l1 : lexlt p q = decide (rd p 0 < rd q 0 ∨ (rd p 0 = rd q 0 ∧ rd p 1 < rd q 1)) := rfl
  rw [l1]
  unfold slices_Compare_int_int.f
  rw [slices_Compare_int_int.l0, if_pos (by omega), if_pos (by omega), if_pos (by omega), if_neg (by omega), if_pos (by omega), cmpi_eq, Option.bind_some]
  by_cases h1 : rd p 0 < rd q 0
  · rw [if_pos h1, if_neg (by omega)]; exact ⟨-1, rfl, by simp [h1]⟩
  · rw [if_neg h1]
    by_cases h2 : rd p 0 > rd q 0
    · rw [if_pos h2, if_neg (by omega)]; exact ⟨1, rfl, by simp; omega⟩
    · rw [if_neg h2, if_pos rfl, show wrap64 ((0 : Int) + 1) = 1 from wr (by omega) (by omega)]
      rw [slices_Compare_int_int.l0, if_pos (by omega), if_pos (by omega), if_pos (by omega), if_neg (by omega), if_pos (by omega), cmpi_eq, Option.bind_some]
      by_cases h3 : rd p 1 < rd q 1
      · rw [if_pos h3, if_neg (by omega)]; exact ⟨-1, rfl, by simp [h3]; omega⟩
      · rw [if_neg h3]
        by_cases h4 : rd p 1 > rd q 1
        · rw [if_pos h4, if_neg (by omega)]; exact ⟨1, rfl, by simp; omega⟩
        · rw [if_neg h4, if_pos rfl, show wrap64 ((1 : Int) + 1) = 2 from wr (by omega) (by omega)]
          rw [slices_Compare_int_int.l0, if_neg (by omega), if_neg (by omega)]
          exact ⟨0, rfl, by simp; omega⟩
theorem impl_isClaim_eq (n : Int) (A : List (List Int)) (c : Int) (h : 0 ≤ n ∧ n ≤ 10) : impl_isClaim.f n A c = some (decide (0 ≤ c ∧ c ≤ n - 1)) := by
  unfold impl_isClaim.f
  rw [wr (i := n - 1) (by omega) (by omega), impl_InRange_eq, Option.bind_some]
theorem impl_IsGraph_l (n : Int) (A : List (List Int)) (hA : A.length ≤ 1048576) (hn : 0 ≤ n ∧ n ≤ 10) : ∀ (d k i : Nat), i + d = A.length → (∀ j, j < i → (rd_L1 A (j : Int)).length = 2) → d + 4 < k →
    impl_IsGraph.l0 k A (A.length : Int) i n A = some (gl (n - 1) (prevOf A i) (A.drop i)) := by
  intro d
  induction d with
  | zero =>
    intro k i hd hp hk
    obtain ⟨k, rfl⟩ := rounds_succ hk
    simp only [impl_IsGraph.l0]; rw [if_neg (by omega), List.drop_eq_nil_of_le (by omega)]
    simp [gl]
  | succ d ih =>
    intro k i hd hp hk
    obtain ⟨k, rfl⟩ := rounds_succ hk
    simp only [impl_IsGraph.l0]; rw [if_pos (by omega), if_pos (by omega), if_pos (by omega), rdL_drop A i (by omega)]
    simp only [gl]
    generalize hq : rd_L1 A (i : Int) = p
    by_cases h2 : p.length = 2
    · rw [if_pos (by omega), if_pos (by omega), impl_isClaim_eq n A _ hn, Option.bind_some]
      by_cases h3 : 0 ≤ rd p 0 ∧ rd p 0 ≤ n - 1
      · rw [if_pos (by simp only [h3, and_self, decide_true]), if_pos (by omega), impl_isClaim_eq n A _ hn, Option.bind_some]
        by_cases h4 : 0 ≤ rd p 1 ∧ rd p 1 ≤ n - 1
        · have hok : okE (n - 1) p = true := by unfold okE; simp only [h2, h3, h4, and_self, decide_true]
          have hnext := ih k (i + 1) (by omega) (fun j hj => by
            by_cases e : j = i
            · rw [e, hq]; exact h2
            · exact hp j (by omega)) (by omega)
          rw [prevOf_succ, hq] at hnext
          rw [if_pos (by simp only [h4, and_self, decide_true])]
          simp only [hok, Bool.true_and]
          by_cases hi : i = 0
          · subst hi
            rw [if_neg (by omega)]
            rw [show wrap64 (((0 : Nat) : Int) + 1) = ((0 + 1 : Nat) : Int) from wrs (by omega), hnext]
            simp [prevOf]
          · have e1 : prevOf A i = some (rd_L1 A ((i - 1 : Nat) : Int)) := by unfold prevOf; rw [if_neg hi]
            have hl := hp (i - 1) (by omega)
            rw [e1]
            rw [if_pos (by omega), show wrap64 ((i : Int) - 1) = ((i - 1 : Nat) : Int) by rw [wr (by omega) (by omega)]; omega]
            generalize rd_L1 A ((i - 1 : Nat) : Int) = q at hl ⊢
            rw [if_pos (by omega), if_pos (by omega)]
            obtain ⟨t, ht, htt⟩ := cmp2_eq q p hl h2 k (by omega)
            rw [ht, Option.bind_some, wrs (by omega), hnext]
            by_cases h5 : t ≥ 0
            · rw [if_pos h5]; simp [htt.1 h5]
            · rw [if_neg h5]
              have : lexlt q p = true := by
                cases e : lexlt q p with
                | true => rfl
                | false => exact absurd (htt.2 e) h5
              simp [this]
        · have hok : okE (n - 1) p = false := by unfold okE; simp only [decide_eq_false_iff_not]; omega
          rw [if_neg (by simp only [decide_eq_true_eq]; omega)]; simp [hok]
      · have hok : okE (n - 1) p = false := by unfold okE; simp only [decide_eq_false_iff_not]; omega
        rw [if_neg (by simp only [decide_eq_true_eq]; omega)]; simp [hok]
    · have hok : okE (n - 1) p = false := by unfold okE; simp [h2]
      rw [if_neg (by omega)]; simp [hok]
theorem impl_IsGraph_eq (n : Int) (A : List (List Int)) (hA : A.length ≤ 1048576) (k : Nat) (hk : A.length + 4 < k) : impl_IsGraph.f k n A = some (isG n A) := by
  unfold impl_IsGraph.f isG
  rw [impl_InRange_eq, Option.bind_some]
  by_cases h : 0 ≤ n ∧ n ≤ 10
  · rw [if_pos (by simp [h])]
    have := impl_IsGraph_l n A hA h A.length k 0 (by omega) (fun j hj => by omega) hk
    rw [show ((0 : Nat) : Int) = 0 from rfl] at this
    rw [this]
    simp [h, prevOf]
  · rw [if_neg (by simp only [decide_eq_true_eq]; exact h)]; simp [h]
theorem impl_IsSet_l (n : Int) (A : List (List Int)) (S : List Int) (hS : S.length ≤ 1048576) (hn : 0 ≤ n ∧ n ≤ 10) : ∀ (d k i : Nat), i + d = S.length → d < k → impl_IsSet.l0 k S S (S.length : Int) i n A = some (sl (n - 1) (prevS S i) (S.drop i)) := by
  intro d
  induction d with
  | zero =>
    intro k i hd hk
    obtain ⟨k, rfl⟩ := rounds_succ hk
    simp only [impl_IsSet.l0]; rw [if_neg (by omega), List.drop_eq_nil_of_le (by omega)]
    simp [sl]
  | succ d ih =>
    intro k i hd hk
    obtain ⟨k, rfl⟩ := rounds_succ hk
    have hnext := ih k (i + 1) (by omega) (by omega)
    rw [prevS_succ] at hnext
    simp only [impl_IsSet.l0]; rw [if_pos (by omega), if_pos (by omega), if_pos (by omega), impl_isClaim_eq n A _ hn, Option.bind_some, wrs (by omega), hnext, drop_rdS S i (by omega)]
    simp only [sl]
    generalize rd S (i : Int) = c
    by_cases h1 : 0 ≤ c ∧ c ≤ n - 1
    · rw [if_pos (by simp only [h1, and_self, decide_true])]
      simp only [h1, and_self, decide_true, Bool.true_and]
      by_cases hi : i = 0
      · subst hi
        rw [if_neg (by omega)]; simp [prevS]
      · have e1 : prevS S i = some (rd S ((i - 1 : Nat) : Int)) := by unfold prevS; rw [if_neg hi]
        rw [e1, if_pos (by omega), show wrap64 ((i : Int) - 1) = ((i - 1 : Nat) : Int) by rw [wr (by omega) (by omega)]; omega, if_pos (by omega), if_pos (by omega)]
        generalize rd S ((i - 1 : Nat) : Int) = q
        by_cases h2 : c ≤ q
        · rw [if_pos h2]
          have : decide (q < c) = false := by simp; omega
          simp [this]
        · rw [if_neg h2]
          have : decide (q < c) = true := by simp; omega
          simp [this]
    · rw [if_neg (by simp only [h1, decide_false, Bool.false_eq_true, not_false_eq_true])]; simp [h1]
theorem impl_IsSet_eq (n : Int) (A : List (List Int)) (S : List Int) (hA : A.length ≤ 1048576) (hS : S.length ≤ 1048576) (k : Nat) (hk : A.length + S.length + 4 < k) : impl_IsSet.f k n A S = some (isS n A S) := by
  unfold impl_IsSet.f isS
  rw [impl_IsGraph_eq n A hA k (by omega), Option.bind_some]
  by_cases h : isG n A = true
  · have := impl_IsSet_l n A S hS (isG_ok h).1 S.length k 0 (by omega) (by omega)
    rw [show ((0 : Nat) : Int) = 0 from rfl] at this
    rw [if_pos h, this, h]; simp [prevS]
  · rw [if_neg h]; simp [h]
theorem impl_VictimsOf_l (n : Int) (A : List (List Int)) (c : Int) (hA : A.length ≤ 1048576) (hg : isG n A = true) : ∀ (d k i : Nat) (o : List Int), i + d = A.length → o.length ≤ i → d < k → impl_VictimsOf.l0 k c o A (A.length : Int) i = some (o ++ vicA (A.drop i) c) := by
  intro d
  induction d with
  | zero =>
    intro k i o hd ho hk
    obtain ⟨k, rfl⟩ := rounds_succ hk
    simp only [impl_VictimsOf.l0]; rw [if_neg (by omega), List.drop_eq_nil_of_le (by omega)]; simp [vicA]
  | succ d ih =>
    intro k i o hd ho hk
    obtain ⟨k, rfl⟩ := rounds_succ hk
    have h2 := isG_len2 hg i (by omega)
    simp only [impl_VictimsOf.l0]; rw [if_pos (by omega), if_pos (by omega), if_pos (by omega), if_pos (by omega), wrs (by omega), rdL_drop A i (by omega)]
    generalize rd_L1 A (i : Int) = p at h2 ⊢
    by_cases h : rd p 0 = c
    · rw [if_pos h, if_pos (by omega), if_pos (by omega), ih k (i + 1) _ (by omega) (by rw [List.length_append, List.length_singleton]; omega) (by omega)]
      simp [vicA, h]
    · rw [if_neg h, ih k (i + 1) _ (by omega) (by omega) (by omega)]
      simp [vicA, h]
theorem impl_VictimsOf_eq (n : Int) (A : List (List Int)) (c : Int) (hA : A.length ≤ 1048576) (k : Nat) (hk : A.length + 4 < k) : impl_VictimsOf.f k n A c = some (vic n A c) := by
  unfold impl_VictimsOf.f vic
  rw [Option.bind_some, impl_IsGraph_eq n A hA k hk, Option.bind_some]
  by_cases h : isG n A = true
  · rw [if_pos h, if_pos h]
    have := impl_VictimsOf_l n A c hA h A.length k 0 [] (by omega) (by simp) (by omega)
    simpa using this
  · rw [if_neg h, if_neg h]
theorem sorted_ext {a b : List Int} (ha : a.Pairwise (· < ·)) (hb : b.Pairwise (· < ·)) (h : ∀ x, x ∈ a ↔ x ∈ b) : a = b := by
  induction a generalizing b with
  | nil =>
    cases b with
    | nil => rfl
    | cons y b => exact absurd ((h y).2 (List.mem_cons_self ..)) (by simp)
  | cons x a ih =>
    cases b with
    | nil => exact absurd ((h x).1 (List.mem_cons_self ..)) (by simp)
    | cons y b =>
      rw [List.pairwise_cons] at ha hb
      have hxy : x = y := by
        rcases List.mem_cons.1 ((h x).1 (List.mem_cons_self ..)) with e | e
        · exact e
        · rcases List.mem_cons.1 ((h y).2 (List.mem_cons_self ..)) with e' | e'
          · exact e'.symm
          · have := hb.1 x e; have := ha.1 y e'; omega
      subst hxy
      congr 1
      refine ih ha.2 hb.2 fun z => ?_
      constructor
      · intro hz
        rcases List.mem_cons.1 ((h z).1 (List.mem_cons_of_mem _ hz)) with e | e
        · subst e; exact absurd (ha.1 z hz) (by omega)
        · exact e
      · intro hz
        rcases List.mem_cons.1 ((h z).2 (List.mem_cons_of_mem _ hz)) with e | e
        · subst e; exact absurd (hb.1 z hz) (by omega)
        · exact e
theorem mono_at {l : List Int} (h : l.Pairwise (· ≤ ·)) {i j : Nat} (hij : i ≤ j) (hj : j < l.length) : l.toArray[i]! ≤ l.toArray[j]! := by
  have hi : i < l.length := by omega
  simp only [List.getElem!_toArray, List.getElem!_eq_getElem?_getD, List.getElem?_eq_getElem hi, List.getElem?_eq_getElem hj, Option.getD_some]
  rcases Nat.lt_or_ge i j with h1 | h1
  · exact List.pairwise_iff_getElem.1 h i j hi hj h1
  · have : i = j := by omega
    subst this; exact Int.le_refl _
theorem compact_at {l : List Int} (h : l.Pairwise (· ≤ ·)) : ∀ m, m ≤ l.length → (Go.Lib.compactUpTo l.toArray m).Pairwise (· < ·) ∧ (∀ x, x ∈ Go.Lib.compactUpTo l.toArray m ↔ ∃ j, j < m ∧ l.toArray[j]! = x) := by
  intro m
  induction m with
  | zero => intro _; exact ⟨by simp [Go.Lib.compactUpTo], fun x => by simp [Go.Lib.compactUpTo]⟩
  | succ m ih =>
    intro hm
    obtain ⟨h1, h2⟩ := ih (by omega)
    rw [Go.Lib.compactUpTo_succ]
    by_cases hk : Go.Lib.keeps l.toArray m = true
    · rw [if_pos hk]
      have hne : m = 0 ∨ l.toArray[m]! ≠ l.toArray[m - 1]! := by simpa [Go.Lib.keeps] using hk
      refine ⟨?_, fun x => ?_⟩
      · rw [List.pairwise_append]
        refine ⟨h1, List.pairwise_singleton _ _, fun a ha b hb => ?_⟩
        rw [List.mem_singleton] at hb
        subst hb
        obtain ⟨j, hj, rfl⟩ := (h2 a).1 ha
        have e1 := mono_at h (show j ≤ m - 1 by omega) (by omega)
        have e2 := mono_at h (show m - 1 ≤ m by omega) (by omega)
        rcases hne with h0 | h0
        · omega
        · have : l.toArray[m - 1]! ≠ l.toArray[m]! := fun e => h0 e.symm
          omega
      · rw [List.mem_append, h2, List.mem_singleton]
        constructor
        · rintro (⟨j, hj, e⟩ | e)
          · exact ⟨j, by omega, e⟩
          · exact ⟨m, by omega, e.symm⟩
        · rintro ⟨j, hj, e⟩
          by_cases hjm : j = m
          · subst hjm; exact .inr e.symm
          · exact .inl ⟨j, by omega, e⟩
    · rw [if_neg hk, List.append_nil]
      have hne : m ≠ 0 ∧ l.toArray[m]! = l.toArray[m - 1]! := by
        have : ¬ (m = 0 ∨ l.toArray[m]! ≠ l.toArray[m - 1]!) := by simpa [Go.Lib.keeps] using hk
        exact ⟨fun e => this (.inl e), Decidable.byContradiction fun e => this (.inr e)⟩
      refine ⟨h1, fun x => ?_⟩
      rw [h2]
      constructor
      · rintro ⟨j, hj, e⟩; exact ⟨j, by omega, e⟩
      · rintro ⟨j, hj, e⟩
        by_cases hjm : j = m
        · subst hjm; exact ⟨j - 1, by omega, by rw [← hne.2]; exact e⟩
        · exact ⟨j, by omega, e⟩
theorem sortedc (l : List Int) : (l.mergeSort fun x y => decide (x ≤ y)).Pairwise (· ≤ ·) := by
  have := List.pairwise_mergeSort (le := fun x y : Int => decide (x ≤ y)) (fun a b c h1 h2 => by simp at *; omega) (fun a b => by simp; omega) l
  exact this.imp (fun h => by simpa using h)
theorem compact_sorted (l : List Int) : (Go.Lib.compact (l.mergeSort fun x y => decide (x ≤ y))).Pairwise (· < ·) ∧ ∀ x, x ∈ Go.Lib.compact (l.mergeSort fun x y => decide (x ≤ y)) ↔ x ∈ l := by
  have h := compact_at (sortedc l) _ (Nat.le_refl _)
  refine ⟨h.1, fun x => ?_⟩
  unfold Go.Lib.compact
  rw [h.2, ← List.mem_mergeSort (le := fun x y => decide (x ≤ y))]
  generalize (l.mergeSort fun x y => decide (x ≤ y)) = q
  rw [List.mem_iff_getElem]
  constructor
  · rintro ⟨j, hj, e⟩
    exact ⟨j, hj, by simpa [List.getElem!_eq_getElem?_getD, List.getElem?_eq_getElem hj] using e⟩
  · rintro ⟨j, hj, e⟩
    exact ⟨j, hj, by simpa [List.getElem!_eq_getElem?_getD, List.getElem?_eq_getElem hj] using e⟩
theorem flat_len (n : Int) (A : List (List Int)) (S : List Int) : (S.flatMap (vic n A)).length ≤ S.length * A.length := by
  induction S with
  | nil => simp
  | cons s S ih =>
    rw [List.flatMap_cons, List.length_append, List.length_cons, Nat.succ_mul]
    have := vic_len n A s
    omega
theorem impl_HitBy_l (n : Int) (A : List (List Int)) (S : List Int) (hA : A.length ≤ 1048576) (hS : S.length ≤ 1048576) : ∀ (d k i : Nat) (o : List Int), i + d = S.length → o.length ≤ i * 1048576 → d + A.length + 5 < k → impl_HitBy.l0 k n A o S (S.length : Int) i = some (o ++ (S.drop i).flatMap (vic n A)) := by
  intro d
  induction d with
  | zero =>
    intro k i o hd ho hk
    obtain ⟨k, rfl⟩ := rounds_succ hk
    simp only [impl_HitBy.l0]; rw [if_neg (by omega), List.drop_eq_nil_of_le (by omega)]; simp
  | succ d ih =>
    intro k i o hd ho hk
    obtain ⟨k, rfl⟩ := rounds_succ hk
    have hv := vic_len n A (rd S (i : Int))
    simp only [impl_HitBy.l0]; rw [if_pos (by omega), if_pos (by omega), if_pos (by omega), impl_VictimsOf_eq n A _ hA k (by omega), Option.bind_some, if_pos (by omega), wrs (by omega), ih k (i + 1) _ (by omega) (by rw [List.length_append]; omega) (by omega)]
    have e : S.drop i = rd S i :: S.drop (i + 1) := by rw [rd_nat S i (by omega)]; exact List.drop_eq_getElem_cons _
    rw [e, List.flatMap_cons, List.append_assoc]
theorem impl_HitBy_eq (n : Int) (A : List (List Int)) (S : List Int) (hA : A.length ≤ 1048576) (hS : S.length ≤ 1048576) (k : Nat) (hk : S.length + A.length + 5 < k) : impl_HitBy.f k n A S = some (hitG n A S) := by
  unfold impl_HitBy.f
  have h := impl_HitBy_l n A S hA hS S.length k 0 [] (by omega) (by simp) (by omega)
  simp only [List.drop_zero, List.nil_append, Int.natCast_zero] at h
  have hl := flat_len n A S
  have hl2 : S.length * A.length ≤ 1048576 * 1048576 := Nat.mul_le_mul hS hA
  rw [h, Option.bind_some, if_pos (by omega)]
  congr 1
  unfold hitG Go.Proofs.YtelkfhlnejlheaaW.Sorts.sorted
  obtain ⟨c1, c2⟩ := compact_sorted (S.flatMap (vic n A))
  by_cases hg : isG n A = true
  · rw [if_pos hg]
    refine sorted_ext c1 (hit_sorted A n S) fun x => ?_
    rw [c2, mem_hit hg, hitb_iff, List.mem_flatMap]
    have hvv : ∀ a, vic n A a = vicA A a := fun a => by unfold vic; rw [if_pos hg]
    simp only [hvv]; unfold vicA
    constructor
    · rintro ⟨s, hs, hx⟩
      obtain ⟨p, hp, e⟩ := List.mem_map.1 hx
      obtain ⟨hp1, hp2⟩ := List.mem_filter.1 hp
      have hp2 := beq_iff_eq.1 hp2
      exact ⟨p, hp1, e, by rw [hp2]; exact hs⟩
    · rintro ⟨p, hp, e, hs⟩
      exact ⟨rd p 0, hs, List.mem_map.2 ⟨p, List.mem_filter.2 ⟨hp, by simp⟩, e⟩⟩
  · rw [if_neg hg]
    have : S.flatMap (vic n A) = [] := by
      rw [List.flatMap_eq_nil_iff]
      intro s _
      unfold vic; rw [if_neg hg]
    rw [this]
    simp [Go.Lib.compact, Go.Lib.compactUpTo]
theorem impl_AttackersOf_l (n : Int) (A : List (List Int)) (c : Int) (hA : A.length ≤ 1048576) (hg : isG n A = true) : ∀ (d k i : Nat) (o : List Int), i + d = A.length → o.length ≤ i → d < k → impl_AttackersOf.l0 k c o A (A.length : Int) i = some (o ++ attA (A.drop i) c) := by
  intro d
  induction d with
  | zero =>
    intro k i o hd ho hk
    obtain ⟨k, rfl⟩ := rounds_succ hk
    simp only [impl_AttackersOf.l0]; rw [if_neg (by omega), List.drop_eq_nil_of_le (by omega)]; simp [attA]
  | succ d ih =>
    intro k i o hd ho hk
    obtain ⟨k, rfl⟩ := rounds_succ hk
    have h2 := isG_len2 hg i (by omega)
    simp only [impl_AttackersOf.l0]; rw [if_pos (by omega), if_pos (by omega), if_pos (by omega), if_pos (by omega), wrs (by omega), rdL_drop A i (by omega)]
    generalize rd_L1 A (i : Int) = p at h2 ⊢
    by_cases h : rd p 1 = c
    · rw [if_pos h, if_pos (by omega), if_pos (by omega), ih k (i + 1) _ (by omega) (by rw [List.length_append, List.length_singleton]; omega) (by omega)]
      simp [attA, h]
    · rw [if_neg h, ih k (i + 1) _ (by omega) (by omega) (by omega)]
      simp [attA, h]
theorem impl_AttackersOf_eq (n : Int) (A : List (List Int)) (c : Int) (hA : A.length ≤ 1048576) (k : Nat) (hk : A.length + 4 < k) : impl_AttackersOf.f k n A c = some (att n A c) := by
  unfold impl_AttackersOf.f att
  rw [Option.bind_some, impl_IsGraph_eq n A hA k hk, Option.bind_some]
  by_cases h : isG n A = true
  · rw [if_pos h, if_pos h]
    have := impl_AttackersOf_l n A c hA h A.length k 0 [] (by omega) (by simp) (by omega)
    simpa using this
  · rw [if_neg h, if_neg h]
theorem idx_l (S : List Int) (c : Int) (hS : S.length ≤ 1099511627776) : ∀ (d k i : Nat), i + d = S.length → d < k → ∃ t, slices_Index_int_int.l0 k S c (S.length : Int) i = some t ∧ (t ≥ 0 ↔ c ∈ S.drop i) := by
  intro d
  induction d with
  | zero =>
    intro k i hd hk
    obtain ⟨k, rfl⟩ := rounds_succ hk
    simp only [slices_Index_int_int.l0]; rw [if_neg (by omega), List.drop_eq_nil_of_le (by omega)]
    exact ⟨-1, rfl, by simp⟩
  | succ d ih =>
    intro k i hd hk
    obtain ⟨k, rfl⟩ := rounds_succ hk
    simp only [slices_Index_int_int.l0]; rw [if_pos (by omega), if_pos (by omega), if_pos (by omega), wrs (by omega)]
    have e : S.drop i = rd S i :: S.drop (i + 1) := by rw [rd_nat S i (by omega)]; exact List.drop_eq_getElem_cons _
    rw [e]
    by_cases h : c = rd S (i : Int)
    · rw [if_pos h]; exact ⟨i, rfl, by simp [← h]⟩
    · rw [if_neg h]
      obtain ⟨t, ht, h2⟩ := ih k (i + 1) (by omega) (by omega)
      exact ⟨t, ht, by rw [h2]; simp [h]⟩
theorem contains_eq (S : List Int) (c : Int) (hS : S.length ≤ 1099511627776) (k : Nat) (hk : S.length < k) : slices_Contains_int_int.f k S c = some (decide (c ∈ S)) := by
  obtain ⟨t, ht, h⟩ := idx_l S c hS S.length k 0 (by omega) hk
  rw [List.drop_zero] at h
  unfold slices_Contains_int_int.f slices_Index_int_int.f
  rw [show (0 : Int) = ((0 : Nat) : Int) from rfl, ht, Option.bind_some]
  simp [← h]
theorem impl_Defends_l (H L : List Int) (hH : H.length ≤ 10) (hL : L.length ≤ 1048576) : ∀ (d k i : Nat), i + d = L.length → d + 20 < k → impl_Defends.l0 k H L (L.length : Int) i = some ((L.drop i).all fun a => decide (a ∈ H)) := by
  intro d
  induction d with
  | zero =>
    intro k i hd hk
    obtain ⟨k, rfl⟩ := rounds_succ hk
    simp only [impl_Defends.l0]; rw [if_neg (by omega), List.drop_eq_nil_of_le (by omega)]; simp
  | succ d ih =>
    intro k i hd hk
    obtain ⟨k, rfl⟩ := rounds_succ hk
    simp only [impl_Defends.l0]; rw [if_pos (by omega), if_pos (by omega), if_pos (by omega), contains_eq H _ (by omega) k (by omega), Option.bind_some, wrs (by omega), ih k (i + 1) (by omega) (by omega), rd_drop L i (by omega), List.all_cons]
    by_cases h : rd L (i : Int) ∈ H
    · rw [if_pos (by simpa using h)]; simp [h]
    · rw [if_neg (by simpa using h)]; simp [h]
theorem impl_Defends_eq (n : Int) (A : List (List Int)) (S : List Int) (c : Int) (hA : A.length ≤ 1048576) (hS : S.length ≤ 1048576) (k : Nat) (hk : A.length + S.length + 60 < k) : impl_Defends.f k n A S c = some (defends n A S c) := by
  obtain ⟨k, rfl⟩ := rounds_succ hk
  unfold impl_Defends.f defends
  rw [impl_IsSet_eq n A S hA hS (k + 1) (by omega), Option.bind_some]
  simp only [impl_Defends.j0]
  by_cases h : isS n A S = true
  · have hn := (isG_ok (isS_ok h).1).1
    have hl := att_len n A c
    rw [if_pos h]
    unfold impl_isClaim.f
    rw [wr (i := n - 1) (by omega) (by omega), impl_InRange_eq, Option.bind_some, Option.bind_some, h, Bool.true_and]
    by_cases h1 : 0 ≤ c ∧ c ≤ n - 1
    · have := impl_Defends_l (hitG n A S) (att n A c) (hitG_len n A S) (by omega) (att n A c).length k 0 (by omega) (by omega)
      simp only [List.drop_zero, Int.natCast_zero] at this
      rw [if_neg (by simp [h1]), impl_HitBy_eq n A S hA hS k (by omega), Option.bind_some, impl_AttackersOf_eq n A c hA k (by omega), Option.bind_some, this]
      simp [h1]
    · have h1b : decide (0 ≤ c ∧ c ≤ n - 1) = false := decide_eq_false h1
      rw [h1b]; simp
  · rw [if_neg h]; simp [h]
theorem impl_DefendedBy_l (n : Int) (A : List (List Int)) (S : List Int) (hA : A.length ≤ 1048576) (hS : S.length ≤ 1048576) (hn : 0 ≤ n ∧ n ≤ 10) : ∀ (d k i : Nat) (o : List Int), i + d = n.toNat → o.length ≤ i → d + A.length + S.length + 70 < k → impl_DefendedBy.l0 k S o n i n A = some (o ++ ((cl n).drop i).filter (defends n A S)) := by
  intro d
  induction d with
  | zero =>
    intro k i o hd ho hk
    obtain ⟨k, rfl⟩ := rounds_succ hk
    simp only [impl_DefendedBy.l0]; rw [if_neg (by omega), List.drop_eq_nil_of_le (by rw [cl_length]; omega)]; simp
  | succ d ih =>
    intro k i o hd ho hk
    obtain ⟨k, rfl⟩ := rounds_succ hk
    simp only [impl_DefendedBy.l0]; rw [if_pos (by omega), impl_Defends_eq n A S _ hA hS k (by omega), Option.bind_some, wrs (by omega), clx_at n i (by omega)]
    by_cases h : defends n A S (i : Int) = true
    · rw [if_pos h, if_pos (by omega), ih k (i + 1) _ (by omega) (by rw [List.length_append, List.length_singleton]; omega) (by omega), List.filter_cons_of_pos h, List.append_assoc]; rfl
    · rw [if_neg h, ih k (i + 1) _ (by omega) (by omega) (by omega), List.filter_cons_of_neg h]
theorem impl_DefendedBy_eq (n : Int) (A : List (List Int)) (S : List Int) (hA : A.length ≤ 1048576) (hS : S.length ≤ 1048576) (k : Nat) (hk : A.length + S.length + 90 < k) : impl_DefendedBy.f k n A S = some (dbyG n A S) := by
  unfold impl_DefendedBy.f dbyG
  rw [Option.bind_some, impl_IsSet_eq n A S hA hS k (by omega), Option.bind_some]
  by_cases hs : isS n A S = true
  · have hn := (isG_ok (isS_ok hs).1).1
    have := impl_DefendedBy_l n A S hA hS hn n.toNat k 0 [] (by omega) (by simp) (by omega)
    rw [if_pos hs, if_pos hs]
    simpa using this
  · rw [if_neg hs, if_neg hs]
theorem equ_l (a b : List Int) (hl : a.length ≤ 1048576) (hab : a.length = b.length) : ∀ (d k i : Nat), (∀ j, j < i → a[j]? = b[j]?) → i + d = a.length → d < k → slices_Equal_int_int.l0 k a b (a.length : Int) i = some (decide (a = b)) := by
  intro d
  induction d with
  | zero =>
    intro k i hp hd hk
    obtain ⟨k, rfl⟩ := rounds_succ hk
    simp only [slices_Equal_int_int.l0]; rw [if_neg (by omega)]
    have : a = b := by
      refine List.ext_getElem? fun j => ?_
      by_cases hj : j < i
      · exact hp j hj
      · rw [List.getElem?_eq_none (by omega), List.getElem?_eq_none (by omega)]
    simp [this]
  | succ d ih =>
    intro k i hp hd hk
    obtain ⟨k, rfl⟩ := rounds_succ hk
    simp only [slices_Equal_int_int.l0]; rw [if_pos (by omega), if_pos (by omega), if_pos (by omega), if_pos (by omega)]
    by_cases e : rd a i = rd b i
    · rw [if_pos e, wrs (by omega)]
      refine ih k (i + 1) ?_ (by omega) (by omega)
      intro j hj
      by_cases e' : j = i
      · subst e'; rw [rd_some a j (by omega), rd_some b j (by omega), e]
      · exact hp j (by omega)
    · rw [if_neg e]
      have : ¬ a = b := fun h => e (by rw [h])
      simp [this]
theorem equ_eq (a b : List Int) (hl : a.length ≤ 1048576) (k : Nat) (hk : a.length < k) : slices_Equal_int_int.f k a b = some (decide (a = b)) := by
  unfold slices_Equal_int_int.f
  by_cases h : a.length = b.length
  · rw [if_pos (by omega)]
    exact equ_l a b hl h a.length k 0 (fun j hj => by omega) (by omega) hk
  · rw [if_neg (by omega)]
    have : ¬ a = b := fun e => h (by rw [e])
    simp [this]
def rowsd (A : List (List Int)) (n : Int) (j : Nat) : List (List Int) := (List.range (j + 1)).map (ite_d A n)
theorem rowsd_len (A : List (List Int)) (n : Int) (j : Nat) : (rowsd A n j).length = j + 1 := by simp [rowsd]
theorem rowsd_last (A : List (List Int)) (n : Int) (j : Nat) : rd_L1 (rowsd A n j) (wrap64 (((rowsd A n j).length : Int) - 1)) = ite_d A n j ∨ ¬ j ≤ 10 := by
  by_cases hj : j ≤ 10
  · left
    rw [rowsd_len, wr (by omega) (by omega)]
    rw [show (((j + 1 : Nat) : Int) - 1) = ((j : Nat) : Int) by omega]
    unfold rd_L1 rowsd
    simp [List.getD_eq_getElem?_getD]
  · exact .inr hj
theorem impl_rounds_l (n : Int) (A : List (List Int)) (hA : A.length ≤ 1048576) (hg : isG n A = true) (m : Nat) (hm : m ≤ 10) (e : ite_d A n (m + 1) = ite_d A n m) (hne : ∀ j, j < m → ite_d A n (j + 1) ≠ ite_d A n j) : ∀ (d k j : Nat), j + d = m → d + A.length + 200 < k → impl_rounds.l0 k (rowsd A n j) n A = some (rowsd A n m) := by
  intro d
  have hn := (isG_ok hg).1
  induction d with
  | zero =>
    intro k j hd hk
    obtain ⟨k, rfl⟩ := rounds_succ hk
    have hj : j = m := by omega
    subst hj
    have h1 := ite_le A n j
    have hl := rowsd_len A n j
    have hlast := (rowsd_last A n j).resolve_right (by omega)
    simp only [impl_rounds.l0]
    rw [if_pos (by rw [hl, wr (by omega) (by omega)]; omega), if_pos (by rw [hl, wr (by omega) (by omega)]; omega), hlast, impl_DefendedBy_eq n A _ hA (by omega) k (by omega), Option.bind_some, dbyG_ite hg]
    have h2 := ite_le A n (j + 1)
    rw [equ_eq _ _ (by omega) k (by omega), Option.bind_some, if_pos (by simpa using e)]
  | succ d ih =>
    intro k j hd hk
    obtain ⟨k, rfl⟩ := rounds_succ hk
    have h1 := ite_le A n j
    have hl := rowsd_len A n j
    have hlast := (rowsd_last A n j).resolve_right (by omega)
    simp only [impl_rounds.l0]
    rw [if_pos (by rw [hl, wr (by omega) (by omega)]; omega), if_pos (by rw [hl, wr (by omega) (by omega)]; omega), hlast, impl_DefendedBy_eq n A _ hA (by omega) k (by omega), Option.bind_some, dbyG_ite hg]
    have h2 := ite_le A n (j + 1)
    rw [equ_eq _ _ (by omega) k (by omega), Option.bind_some, if_neg (by simpa using hne j (by omega)), if_pos (by omega)]
    have : rowsd A n j ++ [ite_d A n (j + 1)] = rowsd A n (j + 1) := by unfold rowsd; rw [List.range_succ (n := j + 1), List.map_append]; rfl
    rw [this]
    exact ih k (j + 1) (by omega) (by omega)
theorem impl_Grounded_eq (n : Int) (A : List (List Int)) (hA : A.length ≤ 1048576) (k : Nat) (hk : A.length + 300 < k) : impl_Grounded.f k n A = some (grd n A) := by
  unfold impl_Grounded.f impl_rounds.f
  rw [Option.bind_some, impl_IsGraph_eq n A hA k (by omega), Option.bind_some]
  by_cases hg : isG n A = true
  · obtain ⟨m, hm, e, em, hne⟩ := grd_stop hg
    have hl := rowsd_len A n m
    have hlast := (rowsd_last A n m).resolve_right (by omega)
    rw [if_pos hg, show ([([] : List Int)] : List (List Int)) = rowsd A n 0 from rfl, impl_rounds_l n A hA hg m hm e hne m k 0 (by omega) (by omega), Option.bind_some]
    rw [if_pos (by rw [hl, wr (by omega) (by omega)]; omega), if_pos (by rw [hl, wr (by omega) (by omega)]; omega), hlast, em]
  · rw [if_neg hg, Option.bind_some]
    unfold grd; rw [if_neg hg]
    have hw : wrap64 ((([([] : List Int)] : List (List Int)).length : Int) - 1) = 0 := by rw [wr (by simp) (by simp)]; rfl
    rw [hw, if_pos (by omega), if_pos (by simp)]; rfl
theorem impl_Labels_l (n : Int) (I H : List Int) (hn : 0 ≤ n ∧ n ≤ 10) (hI : I.length ≤ 10) (hH : H.length ≤ 10) : ∀ (d k i : Nat) (o : List ByteArray), i + d = n.toNat → o.length ≤ i → d + 40 < k → impl_Labels.l0 k o I H n i = some (o ++ ((cl n).drop i).map (lab I H)) := by
  intro d
  induction d with
  | zero =>
    intro k i o hd ho hk
    obtain ⟨k, rfl⟩ := rounds_succ hk
    simp only [impl_Labels.l0]; rw [if_neg (by omega), List.drop_eq_nil_of_le (by rw [cl_length]; omega)]; simp
  | succ d ih =>
    intro k i o hd ho hk
    obtain ⟨k, rfl⟩ := rounds_succ hk
    have hx := fun w => ih k (i + 1) (o ++ [w]) (by omega) (by rw [List.length_append, List.length_singleton]; omega) (by omega)
    simp only [impl_Labels.l0]; rw [if_pos (by omega), contains_eq I _ (by omega) k (by omega), Option.bind_some, contains_eq H _ (by omega) k (by omega), Option.bind_some, wrs (by omega), hx, hx, hx, cly_at n i (by omega), List.map_cons]
    unfold lab
    by_cases h : (i : Int) ∈ I
    · rw [if_pos (by simpa using h), if_pos (by omega), if_pos h, List.append_assoc]; rfl
    · rw [if_neg (by simpa using h), if_neg h]
      by_cases h2 : (i : Int) ∈ H
      · rw [if_pos (by simpa using h2), if_pos (by omega), if_pos h2, List.append_assoc]; rfl
      · rw [if_neg (by simpa using h2), if_pos (by omega), if_neg h2, List.append_assoc]; rfl
theorem impl_Labels_eq (n : Int) (A : List (List Int)) (hA : A.length ≤ 1048576) (k : Nat) (hk : A.length + 400 < k) : impl_Labels.f k n A = some (labs n A) := by
  have hl := grd_len n A
  unfold impl_Labels.f labs
  rw [Option.bind_some, impl_IsGraph_eq n A hA k (by omega), Option.bind_some]
  by_cases hg : isG n A = true
  · have hn := (isG_ok hg).1
    have := impl_Labels_l n (grd n A) (hitG n A (grd n A)) hn hl (hitG_len n A _) n.toNat k 0 [] (by omega) (by simp) (by omega)
    rw [if_pos hg, if_pos hg, impl_Grounded_eq n A hA k (by omega), Option.bind_some, impl_HitBy_eq n A _ hA (by omega) k (by omega), Option.bind_some]
    simpa using this
  · rw [if_neg hg, if_neg hg]
def FnExactLabelsPure : Prop := ∀ (a0_0 : Int) (l0_1 : List (List Int)), (Lit.int .i64 a0_0).wf = true → l0_1.length ≤ maxLen → (∀ r ∈ l0_1, r.length ≤ maxLen ∧ ∀ n ∈ r, (Lit.int .i64 n).wf = true) → ∃ k, laws_FnExactLabels.f k a0_0 l0_1 = some true
theorem FnExactLabels : FnExactLabelsPure := by
  intro n A _ hl hr
  refine ⟨33554433, ?_⟩
  unfold laws_FnExactLabels.f
  obtain ⟨t, ht, hb⟩ := szG_eq n A hl (fun r h => (hr r h).1) 33554433 (by omega)
  rw [ht, Option.bind_some]
  by_cases h0 : t < 0
  · rw [if_pos h0]
  · rw [if_neg h0]
    obtain ⟨h1, h2⟩ := hb (by omega)
    have hv := labs_len n A
    obtain ⟨mg, hmg, hmg0, _⟩ := markG_ends n A h1 h2 33554433 (by omega)
    obtain ⟨mm, hmm⟩ := markStr_held (labs n A) 1 (by omega) (by omega)
    have n1 : ¬ mg < 0 := by omega
    have n2 : ¬ ((1 : Int) + ((labs n A).length : Int) < 0) := by omega
    have g1 : ∀ j, laws_toGraph.f (33554432 + j) n A = some (n, A) := fun j => laws_toGraph_eq n A h1 h2 _ (by omega)
    have g3 : ∀ j, spec_Labels.f (33554432 + j) n A = some (labs n A) := fun j => spec_Labels_eq n A h1 _ (by omega)
    have g4 : ∀ j, impl_Labels.f (33554432 + j) n A = some (labs n A) := fun j => impl_Labels_eq n A h1 _ (by omega)
    have g5 : ∀ j, laws_eqGraph.f (33554432 + j) n A n A = some true := fun j => by rw [laws_eqGraph_eq n n A A (by omega) h2 _ (by omega)]; simp
    have g6 : ∀ j, laws_eqStringS.f (33554432 + j) (labs n A) (labs n A) = some true := fun j => eqStr_refl _ (by omega) _ (by omega)
    have g7 : ∀ j, laws_markStringS.f (33554432 + j) (labs n A) 1 = some (1 + ((labs n A).length : Int), mm) := fun j => (hmm _ (by omega)).1
    have g8 : ∀ j, laws_heldStringS.f (33554432 + j) mm 1 = some (1 + ((labs n A).length : Int)) := fun j => (hmm _ (by omega)).2
    have q1 := g1 1; have q3 := g3 1; have q4 := g4 1; have q5 := g5 1; have q6 := g6 1
    have p1 := g1 0; have p4 := g4 0; have p6 := g6 0; have p7 := g7 0; have p8 := g8 0
    simp only [Nat.reduceAdd, Nat.add_zero] at q1 q3 q4 q5 q6 p1 p4 p6 p7 p8
    simp only [q1, q3, q4, q5, q6, hmg, n1, laws_FnExactLabels.j0, p1, p4, p6, p7, p8, n2, Option.bind_some, if_true, if_false, Bool.not_true, Bool.false_eq_true]
end Go.Proofs.Ytelkfhlnejlheaa.Pure
