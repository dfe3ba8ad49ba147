/- The program's IsCredible answers as the reference's does, for all graphs and claims, and leaves its argument alone. Conditions: none. -/
import Derived.Test.YtelkfhlnejlheaaGFnExactIsCrediblex12
import Derived.OpenShut
namespace Go.Proofs.Ytelkfhlnejlheaa.Pure
open Go.RowKit Go.Proofs.Ytelkfhlnejlheaa.GFnExactIsCredible Go.Proofs.YtelkfhlnejlheaaW.PrintWords Go.Proofs.YtelkfhlnejlheaaW.PrintLast
theorem wr {i : Int} (h0 : -9223372036854775808 ≤ i) (h : i ≤ 9223372036854775807) : wrap64 i = i := by unfold wrap64; omega
theorem wrs {i : Nat} (h : i < 9223372036854775807) : wrap64 ((i : Int) + 1) = ((i + 1 : Nat) : Int) := by unfold wrap64; omega
theorem rd_nat (l : List Int) (i : Nat) (h : i < l.length) : rd l (i : Int) = l[i] := by simp [rd, h]
theorem rd_some (l : List Int) (i : Nat) (h : i < l.length) : l[i]? = some (rd l (i : Int)) := by rw [rd_nat l i h, List.getElem?_eq_getElem h]
theorem rounds_succ {d k : Nat} (h : d < k) : ∃ m, k = m + 1 := ⟨k - 1, by omega⟩
theorem rdL_nat (l : List (List Int)) (i : Nat) (h : i < l.length) : rd_L1 l (i : Int) = l[i] := by simp [rd_L1, h]
theorem rdL_some (l : List (List Int)) (i : Nat) (h : i < l.length) : l[i]? = some (rd_L1 l (i : Int)) := by rw [rdL_nat l i h, List.getElem?_eq_getElem h]
theorem rdL_mem (l : List (List Int)) (i : Nat) (h : i < l.length) : rd_L1 l (i : Int) ∈ l := by rw [rdL_nat l i h]; exact List.getElem_mem h
theorem rdL_drop (l : List (List Int)) (i : Nat) (h : i < l.length) : l.drop i = rd_L1 l (i : Int) :: l.drop (i + 1) := by rw [rdL_nat l i h]; exact List.drop_eq_getElem_cons h
theorem szSS_l (l : List (List Int)) (hl : l.length ≤ 1048576) (hr : ∀ r ∈ l, r.length ≤ maxLen) : ∀ (d k i : Nat) (a : Int), 0 ≤ a → a ≤ 1048576 → i + d = l.length → d < k → ∃ t, laws_szIntSS.l0 k l a i = some t ∧ t ≤ 1048576 ∧ (0 ≤ t → ∀ r ∈ l.drop i, r.length ≤ 1048576) := by
  intro d
  induction d with
  | zero =>
    intro k i a h0 h1 hd hk
    obtain ⟨k, rfl⟩ := rounds_succ hk
    simp only [laws_szIntSS.l0]; rw [if_neg (by omega)]
    exact ⟨a, rfl, h1, fun _ r hr => by rw [List.drop_eq_nil_of_le (by omega)] at hr; cases hr⟩
  | succ d ih =>
    intro k i a h0 h1 hd hk
    obtain ⟨k, rfl⟩ := rounds_succ hk
    have hm := hr _ (rdL_mem l i (by omega))
    unfold maxLen at hm
    simp only [laws_szIntSS.l0]; rw [if_pos (by omega), if_pos (by omega), wrs (by omega), rdL_drop l i (by omega)]
    generalize rd_L1 l (i : Int) = r at hm ⊢
    unfold laws_szIntS.f
    rw [wr (i := a - (r.length : Int)) (by omega) (by omega)]
    by_cases h : a - (r.length : Int) < 0
    · rw [if_pos h, Option.bind_some, if_pos (by omega)]
      exact ⟨-1, rfl, by omega, fun h => by omega⟩
    · rw [if_neg h, Option.bind_some, if_neg h]
      obtain ⟨t, ht, h2, h3⟩ := ih k (i + 1) _ (show 0 ≤ a - (r.length : Int) by omega) (by omega) (by omega) (by omega)
      refine ⟨t, ht, h2, fun h4 r' hr' => ?_⟩
      rcases List.mem_cons.1 hr' with e | e
      · subst e; omega
      · exact h3 h4 r' e
theorem szSS_eq (l : List (List Int)) (hl : l.length ≤ maxLen) (hr : ∀ r ∈ l, r.length ≤ maxLen) (k : Nat) (hk : l.length < k ∨ 1048576 < k) : ∃ t, laws_szIntSS.f k l 1048576 = some t ∧ (0 ≤ t → l.length ≤ 1048576 ∧ ∀ r ∈ l, r.length ≤ 1048576) := by
  unfold maxLen at hl
  unfold laws_szIntSS.f
  rw [wr (i := 1048576 - (l.length : Int)) (by omega) (by omega)]
  by_cases h : 1048576 - (l.length : Int) < 0
  · rw [if_pos h]; exact ⟨-1, rfl, fun h => by omega⟩
  · rw [if_neg h]
    obtain ⟨t, ht, _, h3⟩ := szSS_l l (by omega) hr l.length k 0 _ (show 0 ≤ 1048576 - (l.length : Int) by omega) (by omega) (by omega) (by omega)
    exact ⟨t, ht, fun h4 => ⟨by omega, fun r hr => h3 h4 r (by simpa using hr)⟩⟩
theorem szG_eq (n : Int) (l : List (List Int)) (hl : l.length ≤ maxLen) (hr : ∀ r ∈ l, r.length ≤ maxLen) (k : Nat) (hk : l.length < k ∨ 1048576 < k) : ∃ t, laws_szGraph.f k n l 1048576 = some t ∧ (0 ≤ t → l.length ≤ 1048576 ∧ ∀ r ∈ l, r.length ≤ 1048576) := by
  obtain ⟨t, ht, h⟩ := szSS_eq l hl hr k hk
  unfold laws_szGraph.f
  rw [ht, Option.bind_some]
  by_cases h0 : t < 0
  · rw [if_pos h0]; exact ⟨-1, rfl, fun h => by omega⟩
  · rw [if_neg h0]; exact ⟨t, rfl, h⟩
theorem laws_toIntS_l (l : List Int) (hl : l.length ≤ 1048576) : ∀ (d k i : Nat) (xs : List Int), xs.length = l.length → (∀ j, j < i → xs[j]? = l[j]?) → i + d = l.length → d < k → laws_toIntS.l0 k l xs i = some l := by
  intro d
  induction d with
  | zero =>
    intro k i xs hx hp hd hk
    obtain ⟨k, rfl⟩ := rounds_succ hk
    simp only [laws_toIntS.l0]; rw [if_neg (by omega)]
    congr 1
    refine List.ext_getElem? fun j => ?_
    by_cases hj : j < i
    · exact hp j hj
    · rw [List.getElem?_eq_none (by omega), List.getElem?_eq_none (by omega)]
  | succ d ih =>
    intro k i xs hx hp hd hk
    obtain ⟨k, rfl⟩ := rounds_succ hk
    simp only [laws_toIntS.l0]; rw [if_pos (by omega), if_pos (by omega), if_pos (by omega), wrs (by omega), Int.toNat_natCast]
    refine ih k (i + 1) _ (by simp [hx]) ?_ (by omega) (by omega)
    intro j hj
    rw [List.getElem?_set]
    by_cases e : i = j
    · subst e; rw [if_pos rfl, if_pos (by omega), rd_some l i (by omega)]
    · rw [if_neg e]; exact hp j (by omega)
theorem laws_toIntS_eq (l : List Int) (hl : l.length ≤ 1048576) (k : Nat) (hk : l.length < k) : laws_toIntS.f k l = some l := by
  unfold laws_toIntS.f
  rw [if_pos (by omega), if_pos (by omega)]
  exact laws_toIntS_l l hl l.length k 0 _ (by simp) (fun j hj => by omega) (by omega) hk
theorem toSS_l (l : List (List Int)) (hl : l.length ≤ 1048576) (hr : ∀ r ∈ l, r.length ≤ 1048576) : ∀ (d k i : Nat) (xs : List (List Int)), xs.length = l.length → (∀ j, j < i → xs[j]? = l[j]?) → i + d = l.length → d + 1048576 < k → laws_toIntSS.l0 k l xs i = some l := by
  intro d
  induction d with
  | zero =>
    intro k i xs hx hp hd hk
    obtain ⟨k, rfl⟩ := rounds_succ hk
    simp only [laws_toIntSS.l0]; rw [if_neg (by omega)]
    congr 1
    refine List.ext_getElem? fun j => ?_
    by_cases hj : j < i
    · exact hp j hj
    · rw [List.getElem?_eq_none (by omega), List.getElem?_eq_none (by omega)]
  | succ d ih =>
    intro k i xs hx hp hd hk
    obtain ⟨k, rfl⟩ := rounds_succ hk
    have hm := hr _ (rdL_mem l i (by omega))
    simp only [laws_toIntSS.l0]; rw [if_pos (by omega), if_pos (by omega), laws_toIntS_eq _ hm k (by omega), Option.bind_some, if_pos (by omega), wrs (by omega), Int.toNat_natCast]
    refine ih k (i + 1) _ (by simp [hx]) ?_ (by omega) (by omega)
    intro j hj
    rw [List.getElem?_set]
    by_cases e : i = j
    · subst e; rw [if_pos rfl, if_pos (by omega), rdL_some l i (by omega)]
    · rw [if_neg e]; exact hp j (by omega)
theorem laws_toIntSS_eq (l : List (List Int)) (hl : l.length ≤ 1048576) (hr : ∀ r ∈ l, r.length ≤ 1048576) (k : Nat) (hk : 2097152 < k) : laws_toIntSS.f k l = some l := by
  unfold laws_toIntSS.f
  rw [if_pos (by omega), if_pos (by omega)]
  exact toSS_l l hl hr l.length k 0 _ (by simp) (fun j hj => by omega) (by omega) (by omega)
theorem laws_toGraph_eq (n : Int) (l : List (List Int)) (hl : l.length ≤ 1048576) (hr : ∀ r ∈ l, r.length ≤ 1048576) (k : Nat) (hk : 2097152 < k) : laws_toGraph.f k n l = some (n, l) := by
  unfold laws_toGraph.f
  rw [laws_toIntSS_eq l hl hr k hk, Option.bind_some]
theorem laws_eqIntS_l (a b : List Int) (hl : a.length ≤ 1099511627776) (hab : a.length = b.length) : ∀ (d k i : Nat), (∀ j, j < i → a[j]? = b[j]?) → i + d = a.length → d < k → laws_eqIntS.l0 k a b i = some (decide (a = b)) := by
  intro d
  induction d with
  | zero =>
    intro k i hp hd hk
    obtain ⟨k, rfl⟩ := rounds_succ hk
    simp only [laws_eqIntS.l0]; rw [if_neg (by omega)]
    have : a = b := by
      refine List.ext_getElem? fun j => ?_
      by_cases hj : j < i
      · exact hp j hj
      · rw [List.getElem?_eq_none (by omega), List.getElem?_eq_none (by omega)]
    simp [this]
  | succ d ih =>
    intro k i hp hd hk
    obtain ⟨k, rfl⟩ := rounds_succ hk
    simp only [laws_eqIntS.l0]; rw [if_pos (by omega), if_pos (by omega), if_pos (by omega)]
    by_cases e : rd a i = rd b i
    · rw [if_pos e, wrs (by omega)]
      refine ih k (i + 1) ?_ (by omega) (by omega)
      intro j hj
      by_cases e' : j = i
      · subst e'; rw [rd_some a j (by omega), rd_some b j (by omega), e]
      · exact hp j (by omega)
    · rw [if_neg e]
      have : ¬ a = b := fun h => e (by rw [h])
      simp [this]
theorem laws_eqIntS_eq (a b : List Int) (hl : a.length ≤ 1099511627776) (k : Nat) (hk : a.length < k) : laws_eqIntS.f k a b = some (decide (a = b)) := by
  unfold laws_eqIntS.f
  by_cases h : a.length = b.length
  · rw [if_pos (by omega)]
    exact laws_eqIntS_l a b hl h a.length k 0 (fun j hj => by omega) (by omega) hk
  · rw [if_neg (by omega)]
    have : ¬ a = b := fun e => h (by rw [e])
    simp [this]
theorem eqSS_l (a b : List (List Int)) (hl : a.length ≤ 1099511627776) (hr : ∀ r ∈ a, r.length ≤ 1048576) (hab : a.length = b.length) : ∀ (d k i : Nat), (∀ j, j < i → a[j]? = b[j]?) → i + d = a.length → d + 1048576 < k → laws_eqIntSS.l0 k a b i = some (decide (a = b)) := by
  intro d
  induction d with
  | zero =>
    intro k i hp hd hk
    obtain ⟨k, rfl⟩ := rounds_succ hk
    simp only [laws_eqIntSS.l0]; rw [if_neg (by omega)]
    have : a = b := by
      refine List.ext_getElem? fun j => ?_
      by_cases hj : j < i
      · exact hp j hj
      · rw [List.getElem?_eq_none (by omega), List.getElem?_eq_none (by omega)]
    simp [this]
  | succ d ih =>
    intro k i hp hd hk
    obtain ⟨k, rfl⟩ := rounds_succ hk
    have hm := hr _ (rdL_mem a i (by omega))
    simp only [laws_eqIntSS.l0]; rw [if_pos (by omega), if_pos (by omega), if_pos (by omega), laws_eqIntS_eq _ _ (by omega) k (by omega), Option.bind_some]
    by_cases e : rd_L1 a i = rd_L1 b i
    · rw [if_pos (by simp [e]), wrs (by omega)]
      refine ih k (i + 1) ?_ (by omega) (by omega)
      intro j hj
      by_cases e' : j = i
      · subst e'; rw [rdL_some a j (by omega), rdL_some b j (by omega), e]
      · exact hp j (by omega)
    · rw [if_neg (by simp [e])]
      have : ¬ a = b := fun h => e (by rw [h])
      simp [this]
theorem laws_eqIntSS_eq (a b : List (List Int)) (hl : a.length ≤ 1099511627776) (hr : ∀ r ∈ a, r.length ≤ 1048576) (k : Nat) (hk : a.length + 1048576 < k) : laws_eqIntSS.f k a b = some (decide (a = b)) := by
  unfold laws_eqIntSS.f
  by_cases h : a.length = b.length
  · rw [if_pos (by omega)]
    exact eqSS_l a b hl hr h a.length k 0 (fun j hj => by omega) (by omega) hk
  · rw [if_neg (by omega)]
    have : ¬ a = b := fun e => h (by rw [e])
    simp [this]
theorem laws_eqGraph_eq (n m : Int) (a b : List (List Int)) (hl : a.length ≤ 1099511627776) (hr : ∀ r ∈ a, r.length ≤ 1048576) (k : Nat) (hk : a.length + 1048576 < k) : laws_eqGraph.f k n a m b = some (decide (n = m ∧ a = b)) := by
  unfold laws_eqGraph.f
  by_cases h : n = m
  · rw [if_pos h, laws_eqIntSS_eq a b hl hr k hk, Option.bind_some]
    by_cases e : a = b <;> simp [h, e]
  · rw [if_neg h]; simp [h]
def cl (n : Int) : List Int := (List.range n.toNat).map fun (i : Nat) => (i : Int)
def hitb (A : List (List Int)) (S : List Int) (k : Int) : Bool := A.any fun p => rd p 1 == k && S.contains (rd p 0)
def hit (A : List (List Int)) (n : Int) (S : List Int) : List Int := (cl n).filter (hitb A S)
def defb (A : List (List Int)) (S : List Int) (c : Int) : Bool := A.all fun p => !(rd p 1 == c) || hitb A S (rd p 0)
def dby (A : List (List Int)) (n : Int) (S : List Int) : List Int := (cl n).filter (defb A S)
theorem mem_cl (n k : Int) : k ∈ cl n ↔ 0 ≤ k ∧ k < n := by
  unfold cl; simp only [List.mem_map, List.mem_range]
  constructor
  · rintro ⟨i, hi, rfl⟩; omega
  · rintro ⟨h0, h1⟩; exact ⟨k.toNat, by omega, by omega⟩
theorem cl_length (n : Int) : (cl n).length = n.toNat := by simp [cl]
theorem cl_sorted (n : Int) : (cl n).Pairwise (· < ·) := by
  unfold cl; rw [List.pairwise_map]
  exact List.pairwise_lt_range.imp (fun h => by omega)
theorem hitb_iff (A : List (List Int)) (S : List Int) (k : Int) : hitb A S k = true ↔ ∃ p ∈ A, rd p 1 = k ∧ rd p 0 ∈ S := by
  unfold hitb; simp
theorem defb_iff (A : List (List Int)) (S : List Int) (c : Int) : defb A S c = true ↔ ∀ p ∈ A, rd p 1 = c → hitb A S (rd p 0) = true := by
  unfold defb; simp only [List.all_eq_true, Bool.or_eq_true, Bool.not_eq_true', beq_eq_false_iff_ne]
  constructor
  · intro h p hp e; rcases h p hp with h | h
    · exact absurd e h
    · exact h
  · intro h p hp; by_cases e : rd p 1 = c
    · exact .inr (h p hp e)
    · exact .inl e
theorem hitb_mono {A : List (List Int)} {S T : List Int} (h : ∀ x ∈ S, x ∈ T) (k : Int) (hk : hitb A S k = true) : hitb A T k = true := by
  rw [hitb_iff] at *
  obtain ⟨p, hp, e, hs⟩ := hk
  exact ⟨p, hp, e, h _ hs⟩
theorem defb_mono {A : List (List Int)} {S T : List Int} (h : ∀ x ∈ S, x ∈ T) (k : Int) (hk : defb A S k = true) : defb A T k = true := by
  rw [defb_iff] at *
  exact fun p hp e => hitb_mono h _ (hk p hp e)
theorem dby_mono {A : List (List Int)} {n : Int} {S T : List Int} (h : ∀ x ∈ S, x ∈ T) : ∀ x ∈ dby A n S, x ∈ dby A n T := by
  intro x hx
  unfold dby at *
  rw [List.mem_filter] at *
  exact ⟨hx.1, defb_mono h _ hx.2⟩
theorem dby_sub (A : List (List Int)) (n : Int) {S T : List Int} (h : ∀ x ∈ S, x ∈ T) : (dby A n S).Sublist (dby A n T) := by
  unfold dby
  have : (cl n).filter (defb A S) = ((cl n).filter (defb A T)).filter (defb A S) := by
    rw [List.filter_filter]
    refine List.filter_congr fun x _ => ?_
    cases e : defb A S x with
    | false => rfl
    | true => simp [defb_mono h x e]
  rw [this]
  exact List.filter_sublist
def ite_d (A : List (List Int)) (n : Int) : Nat → List Int
  | 0 => []
  | m + 1 => dby A n (ite_d A n m)
theorem ite_up (A : List (List Int)) (n : Int) (m : Nat) : ∀ x ∈ ite_d A n m, x ∈ ite_d A n (m + 1) := by
  induction m with
  | zero => intro x hx; cases hx
  | succ m ih => exact dby_mono ih
theorem ite_sub (A : List (List Int)) (n : Int) (m : Nat) : (ite_d A n m).Sublist (ite_d A n (m + 1)) := by
  cases m with
  | zero => exact List.nil_sublist _
  | succ m => exact dby_sub A n (ite_up A n m)
theorem ite_le (A : List (List Int)) (n : Int) (m : Nat) : (ite_d A n m).length ≤ n.toNat := by
  cases m with
  | zero => exact Nat.zero_le _
  | succ m => rw [← cl_length n]; exact (List.filter_sublist).length_le
/-- Either it stands still at some round, or it has grown by one a round. -/
theorem ite_grow (A : List (List Int)) (n : Int) (m : Nat) : (∃ j, j < m ∧ ite_d A n (j + 1) = ite_d A n j) ∨ m ≤ (ite_d A n m).length := by
  induction m with
  | zero => exact .inr (Nat.zero_le _)
  | succ m ih =>
    rcases ih with ⟨j, hj, e⟩ | h
    · exact .inl ⟨j, by omega, e⟩
    · by_cases e : ite_d A n (m + 1) = ite_d A n m
      · exact .inl ⟨m, by omega, e⟩
      · refine .inr ?_
        have hs := ite_sub A n m
        have := hs.length_le
        have hne : (ite_d A n m).length ≠ (ite_d A n (m + 1)).length := fun h => e (hs.eq_of_length h).symm
        omega
theorem ite_stop (A : List (List Int)) (n : Int) : ∃ j, j ≤ n.toNat ∧ ite_d A n (j + 1) = ite_d A n j := by
  rcases ite_grow A n (n.toNat + 1) with ⟨j, hj, e⟩ | h
  · exact ⟨j, by omega, e⟩
  · have := ite_le A n (n.toNat + 1); omega
/-- The least such round. -/
theorem ite_least (A : List (List Int)) (n : Int) : ∃ m, m ≤ n.toNat ∧ ite_d A n (m + 1) = ite_d A n m ∧ ∀ j, j < m → ite_d A n (j + 1) ≠ ite_d A n j := by
  obtain ⟨j, hj, e⟩ := ite_stop A n
  induction j using Nat.strongRecOn with
  | ind j ih =>
    by_cases h : ∃ i, i < j ∧ ite_d A n (i + 1) = ite_d A n i
    · obtain ⟨i, hi, ei⟩ := h
      exact ih i hi (by omega) ei
    · exact ⟨j, hj, e, fun i hi ei => h ⟨i, hi, ei⟩⟩
theorem ite_const (A : List (List Int)) (n : Int) (m : Nat) (e : ite_d A n (m + 1) = ite_d A n m) : ∀ d, ite_d A n (m + d) = ite_d A n m := by
  intro d
  induction d with
  | zero => rfl
  | succ d ih => rw [show m + (d + 1) = (m + d) + 1 by omega, ite_d, ih]; exact e
theorem ite_mono (A : List (List Int)) (n : Int) (m d : Nat) : ∀ x ∈ ite_d A n m, x ∈ ite_d A n (m + d) := by
  induction d with
  | zero => exact fun x h => h
  | succ d ih => exact fun x h => ite_up A n (m + d) x (ih x h)
def Free (A : List (List Int)) (S : List Int) : Prop := ∀ s ∈ S, hitb A S s = false
/-- What a free set defends is free. -/
theorem free_dby {A : List (List Int)} {n : Int} {S : List Int} (hf : Free A S) : Free A (dby A n S) := by
  intro b hb
  cases e : hitb A (dby A n S) b with
  | false => rfl
  | true =>
    rw [hitb_iff] at e
    obtain ⟨p, hp, e1, ha⟩ := e
    have hb' := (List.mem_filter.1 hb).2
    rw [defb_iff] at hb'
    have h1 := hb' p hp e1
    rw [hitb_iff] at h1
    obtain ⟨q, hq, e2, hsq⟩ := h1
    have ha' := (List.mem_filter.1 ha).2
    rw [defb_iff] at ha'
    have h2 := ha' q hq e2
    have := hf _ hsq
    rw [h2] at this; cases this
theorem ite_free (A : List (List Int)) (n : Int) (m : Nat) : Free A (ite_d A n m) := by
  induction m with
  | zero => intro s hs; cases hs
  | succ m ih => exact free_dby ih
theorem ite_in (A : List (List Int)) (n : Int) (S : List Int) (h : ∀ x ∈ dby A n S, x ∈ S) (m : Nat) : ∀ x ∈ ite_d A n m, x ∈ S := by
  induction m with
  | zero => intro x hx; cases hx
  | succ m ih => exact fun x hx => h x (dby_mono ih x hx)
def okE (w : Int) (p : List Int) : Bool := decide (p.length = 2 ∧ (0 ≤ rd p 0 ∧ rd p 0 ≤ w) ∧ (0 ≤ rd p 1 ∧ rd p 1 ≤ w))
def lexlt (p q : List Int) : Bool := decide (rd p 0 < rd q 0 ∨ (rd p 0 = rd q 0 ∧ rd p 1 < rd q 1))
def gl (w : Int) : Option (List Int) → List (List Int) → Bool
  | _, [] => true
  | prev, p :: R => okE w p && (match prev with | none => true | some q => lexlt q p) && gl w (some p) R
def isG (n : Int) (A : List (List Int)) : Bool := decide (0 ≤ n ∧ n ≤ 10) && gl (n - 1) none A
theorem gl_ok (w : Int) (R : List (List Int)) : ∀ prev, gl w prev R = true → ∀ p ∈ R, okE w p = true := by
  induction R with
  | nil => intro prev _ p hp; cases hp
  | cons q R ih =>
    intro prev h p hp
    simp only [gl, Bool.and_eq_true] at h
    rcases List.mem_cons.1 hp with e | e
    · rw [e]; exact h.1.1
    · exact ih _ h.2 p e
theorem isG_ok {n : Int} {A : List (List Int)} (h : isG n A = true) : (0 ≤ n ∧ n ≤ 10) ∧ ∀ p ∈ A, p.length = 2 ∧ (0 ≤ rd p 0 ∧ rd p 0 < n) ∧ (0 ≤ rd p 1 ∧ rd p 1 < n) := by
  unfold isG at h
  simp only [Bool.and_eq_true, decide_eq_true_eq] at h
  refine ⟨h.1, fun p hp => ?_⟩
  have := gl_ok _ _ _ h.2 p hp
  unfold okE at this
  have := of_decide_eq_true this
  omega
def prevOf (A : List (List Int)) (i : Nat) : Option (List Int) := if i = 0 then none else some (rd_L1 A ((i - 1 : Nat) : Int))
theorem prevOf_succ (A : List (List Int)) (i : Nat) : prevOf A (i + 1) = some (rd_L1 A (i : Int)) := by unfold prevOf; rw [if_neg (by omega)]; rfl
def vicA (A : List (List Int)) (c : Int) : List Int := (A.filter fun p => rd p 0 == c).map fun p => rd p 1
def attA (A : List (List Int)) (c : Int) : List Int := (A.filter fun p => rd p 1 == c).map fun p => rd p 0
def vic (n : Int) (A : List (List Int)) (c : Int) : List Int := if isG n A = true then vicA A c else []
def att (n : Int) (A : List (List Int)) (c : Int) : List Int := if isG n A = true then attA A c else []
theorem vicA_len (A : List (List Int)) (c : Int) : (vicA A c).length ≤ A.length := by unfold vicA; rw [List.length_map]; exact List.length_filter_le _ _
theorem attA_len (A : List (List Int)) (c : Int) : (attA A c).length ≤ A.length := by unfold attA; rw [List.length_map]; exact List.length_filter_le _ _
theorem vic_len (n : Int) (A : List (List Int)) (c : Int) : (vic n A c).length ≤ A.length := by unfold vic; split; exact vicA_len A c; simp
theorem att_len (n : Int) (A : List (List Int)) (c : Int) : (att n A c).length ≤ A.length := by unfold att; split; exact attA_len A c; simp
theorem isG_len2 {n : Int} {A : List (List Int)} (h : isG n A = true) (i : Nat) (hi : i < A.length) : (rd_L1 A (i : Int)).length = 2 := ((isG_ok h).2 _ (rdL_mem A i hi)).1
theorem vicA_cons (p : List Int) (R : List (List Int)) (c : Int) : vicA (p :: R) c = if rd p 0 = c then rd p 1 :: vicA R c else vicA R c := by
  unfold vicA
  by_cases h : rd p 0 = c
  · rw [if_pos h, List.filter_cons_of_pos (by simp [h])]; rfl
  · rw [if_neg h, List.filter_cons_of_neg (by simp [h])]
theorem attA_cons (p : List Int) (R : List (List Int)) (c : Int) : attA (p :: R) c = if rd p 1 = c then rd p 0 :: attA R c else attA R c := by
  unfold attA
  by_cases h : rd p 1 = c
  · rw [if_pos h, List.filter_cons_of_pos (by simp [h])]; rfl
  · rw [if_neg h, List.filter_cons_of_neg (by simp [h])]
def hitG (n : Int) (A : List (List Int)) (S : List Int) : List Int := if isG n A = true then hit A n S else []
theorem hit_sorted (A : List (List Int)) (n : Int) (S : List Int) : (hit A n S).Pairwise (· < ·) := (cl_sorted n).sublist List.filter_sublist
theorem hit_len (A : List (List Int)) (n : Int) (S : List Int) : (hit A n S).length ≤ n.toNat := by
  unfold hit; have := List.length_filter_le (hitb A S) (cl n); rwa [cl_length] at this
theorem hitG_len (n : Int) (A : List (List Int)) (S : List Int) : (hitG n A S).length ≤ 10 := by
  unfold hitG
  split
  · rename_i h; have := hit_len A n S; have := (isG_ok h).1; omega
  · simp
theorem mem_hit {A : List (List Int)} {n : Int} {S : List Int} (h : isG n A = true) (k : Int) : k ∈ hit A n S ↔ hitb A S k = true := by
  unfold hit
  rw [List.mem_filter, mem_cl]
  constructor
  · exact fun h => h.2
  · intro hb
    refine ⟨?_, hb⟩
    obtain ⟨p, hp, e, _⟩ := (hitb_iff A S k).1 hb
    have := ((isG_ok h).2 p hp).2.2
    omega
def sl (w : Int) : Option Int → List Int → Bool
  | _, [] => true
  | prev, c :: R => decide (0 ≤ c ∧ c ≤ w) && (match prev with | none => true | some q => decide (q < c)) && sl w (some c) R
def isS (n : Int) (A : List (List Int)) (S : List Int) : Bool := isG n A && sl (n - 1) none S
def prevS (S : List Int) (i : Nat) : Option Int := if i = 0 then none else some (rd S ((i - 1 : Nat) : Int))
theorem prevS_succ (S : List Int) (i : Nat) : prevS S (i + 1) = some (rd S (i : Int)) := by unfold prevS; rw [if_neg (by omega)]; rfl
theorem drop_rdS (l : List Int) (i : Nat) (h : i < l.length) : l.drop i = rd l i :: l.drop (i + 1) := by rw [rd_nat l i h]; exact List.drop_eq_getElem_cons h
theorem sl_in (w : Int) (R : List Int) : ∀ prev, sl w prev R = true → ∀ c ∈ R, 0 ≤ c ∧ c ≤ w := by
  induction R with
  | nil => intro prev _ p hp; cases hp
  | cons q R ih =>
    intro prev h p hp
    simp only [sl, Bool.and_eq_true, decide_eq_true_eq] at h
    rcases List.mem_cons.1 hp with e | e
    · rw [e]; exact h.1.1
    · exact ih _ h.2 p e
theorem sl_sorted (w : Int) (R : List Int) : ∀ prev, sl w prev R = true → R.Pairwise (· < ·) ∧ ∀ q, prev = some q → ∀ c ∈ R, q < c := by
  induction R with
  | nil => intro prev _; exact ⟨List.Pairwise.nil, fun q _ c hc => by cases hc⟩
  | cons x R ih =>
    intro prev h
    simp only [sl, Bool.and_eq_true, decide_eq_true_eq] at h
    obtain ⟨h1, h2⟩ := ih _ h.2
    have hx := h2 x rfl
    refine ⟨List.pairwise_cons.2 ⟨hx, h1⟩, fun q hq c hc => ?_⟩
    subst hq
    have hqx : q < x := by simpa using h.1.2
    rcases List.mem_cons.1 hc with e | e
    · rw [e]; exact hqx
    · have := hx c e; omega
theorem isS_ok {n : Int} {A : List (List Int)} {S : List Int} (h : isS n A S = true) : isG n A = true ∧ (∀ c ∈ S, 0 ≤ c ∧ c < n) ∧ S.Pairwise (· < ·) := by
  unfold isS at h
  rw [Bool.and_eq_true] at h
  refine ⟨h.1, fun c hc => ?_, (sl_sorted _ _ _ h.2).1⟩
  have := sl_in _ _ _ h.2 c hc
  omega
def freeb (n : Int) (A : List (List Int)) (S : List Int) : Bool := isS n A S && S.all fun c => !decide (c ∈ hitG n A S)
theorem rd_drop (S : List Int) (i : Nat) (h : i < S.length) : S.drop i = rd S i :: S.drop (i + 1) := by rw [rd_nat S i h]; exact List.drop_eq_getElem_cons _
def defends (n : Int) (A : List (List Int)) (S : List Int) (c : Int) : Bool := isS n A S && (decide (0 ≤ c ∧ c ≤ n - 1) && (att n A c).all fun a => decide (a ∈ hitG n A S))
def dbyG (n : Int) (A : List (List Int)) (S : List Int) : List Int := if isS n A S = true then (cl n).filter (defends n A S) else []
theorem clx_at (n : Int) (i : Nat) (hi : (i : Int) < n) : (cl n).drop i = (i : Int) :: (cl n).drop (i + 1) := by
  have hl : i < (cl n).length := by rw [cl_length]; omega
  rw [List.drop_eq_getElem_cons hl]
  congr 1
  simp [cl]
theorem dbyG_len (n : Int) (A : List (List Int)) (S : List Int) : (dbyG n A S).length ≤ 10 := by
  unfold dbyG
  split
  · rename_i h
    have := (isG_ok (isS_ok h).1).1
    have h2 := List.length_filter_le (defends n A S) (cl n)
    rw [cl_length] at h2; omega
  · simp
def compb (n : Int) (A : List (List Int)) (S : List Int) : Bool := freeb n A S && decide (dbyG n A S = S)
/-- The claims whose bits a mask has. -/
def bitP (m : Int) (i : Int) : Bool := decide (Go.bits .and .i64 (shr .i64 m i) 1 = 1)
def setM (n m : Int) : List Int := (cl n).filter (bitP m)
def restC (n : Int) (A : List (List Int)) (M i : Nat) : List (List Int) := (((List.range M).drop i).map fun (m : Nat) => setM n (m : Int)).filter (compb n A)
theorem setM_len {n : Int} (h : 0 ≤ n ∧ n ≤ 10) (m : Int) : (setM n m).length ≤ 10 := by
  unfold setM
  have := List.length_filter_le (bitP m) (cl n)
  rw [cl_length] at this; omega
theorem restC_end (n : Int) (A : List (List Int)) (M : Nat) : restC n A M M = [] := by unfold restC; rw [List.drop_eq_nil_of_le (by simp)]; rfl
theorem restC_at (n : Int) (A : List (List Int)) (M i : Nat) (h : i < M) : restC n A M i = if compb n A (setM n (i : Int)) = true then setM n (i : Int) :: restC n A M (i + 1) else restC n A M (i + 1) := by
  unfold restC
  rw [List.drop_eq_getElem_cons (by simpa using h), List.getElem_range, List.map_cons, List.filter_cons]
theorem restC_mem {n : Int} {A : List (List Int)} {M i : Nat} (hn : 0 ≤ n ∧ n ≤ 10) {p : List Int} (h : p ∈ restC n A M i) : p.length ≤ 10 := by
  unfold restC at h
  obtain ⟨h, _⟩ := List.mem_filter.1 h
  obtain ⟨m, _, rfl⟩ := List.mem_map.1 h
  exact setM_len hn _
theorem restC_len (n : Int) (A : List (List Int)) (M : Nat) : (restC n A M 0).length ≤ M := by
  unfold restC
  have := List.length_filter_le (compb n A) (((List.range M).drop 0).map fun (m : Nat) => setM n (m : Int))
  simpa using this
def allC (n : Int) (A : List (List Int)) : List (List Int) := if isG n A = true then Go.Proofs.YtelkfhlnejlheaaW.Pick.sortL (restC n A (2 ^ n.toNat) 0) else []
theorem pow_small (j : Nat) (h : j ≤ 10) : shl .i64 1 (j : Int) = ((2 ^ j : Nat) : Int) ∧ 2 ^ j ≤ 1024 := by
  have : ∀ i : Fin 11, shl .i64 1 (i.val : Int) = ((2 ^ i.val : Nat) : Int) ∧ 2 ^ i.val ≤ 1024 := by decide
  exact this ⟨j, by omega⟩
theorem shl_n {n : Int} (h : 0 ≤ n ∧ n ≤ 10) : shl .i64 1 n = ((2 ^ n.toNat : Nat) : Int) := by
  have := (pow_small n.toNat (by omega)).1
  rwa [show ((n.toNat : Nat) : Int) = n by omega] at this
theorem allC_mem {n : Int} {A : List (List Int)} {p : List Int} (h : p ∈ allC n A) : p.length ≤ 10 := by
  unfold allC at h
  split at h
  · rename_i hg
    exact restC_mem (isG_ok hg).1 ((List.mergeSort_perm _ _).mem_iff.1 h)
  · cases h
theorem allC_len (n : Int) (A : List (List Int)) : (allC n A).length ≤ 1024 := by
  unfold allC
  split
  · rename_i hg
    have h1 := restC_len n A (2 ^ n.toNat)
    have h2 := (pow_small n.toNat (by have := (isG_ok hg).1; omega)).2
    show (List.mergeSort _ _).length ≤ 1024
    rw [List.length_mergeSort]; omega
  · simp
theorem sortL_perm {l m : List (List Int)} (h : l.Perm m) : Go.Proofs.YtelkfhlnejlheaaW.Pick.sortL l = Go.Proofs.YtelkfhlnejlheaaW.Pick.sortL m :=
  Go.Proofs.YtelkfhlnejlheaaW.Pick.sortL_unique ((List.mergeSort_perm l _).trans h) (List.pairwise_mergeSort Go.Proofs.YtelkfhlnejlheaaW.Pick.leL_trans Go.Proofs.YtelkfhlnejlheaaW.Pick.leL_total l)
theorem spec_l1In_eq (a b c : Int) : spec_l1In.f a b c = some (decide (b ≤ a ∧ a ≤ c)) := by
  unfold spec_l1In.f; by_cases h : b ≤ a <;> simp [h]
theorem spec_IsGraph_l (n : Int) (A : List (List Int)) (hA : A.length ≤ 1048576) : ∀ (d k i : Nat), i + d = A.length → (∀ j, j < i → (rd_L1 A (j : Int)).length = 2) → 2 * d + 1 < k →
    spec_IsGraph.l0 k i n A = some (gl (wrap64 (n - 1)) (prevOf A i) (A.drop i) && decide (0 ≤ n ∧ n ≤ 10)) := by
  generalize hw : wrap64 (n - 1) = w
  intro d
  induction d with
  | zero =>
    intro k i hd hp hk
    obtain ⟨k, rfl⟩ := rounds_succ hk
    simp only [spec_IsGraph.l0]; rw [if_neg (by omega), List.drop_eq_nil_of_le (by omega), spec_l1In_eq, Option.bind_some]
    simp [gl]
  | succ d ih =>
    intro k i hd hp hk
    obtain ⟨k, rfl⟩ := rounds_succ hk
    obtain ⟨k, rfl⟩ := rounds_succ (show 0 < k by omega)
    simp only [spec_IsGraph.l0]; rw [if_pos (by omega), if_pos (by omega), hw, rdL_drop A i (by omega)]
    simp only [gl]
    generalize hq : rd_L1 A (i : Int) = p
    by_cases h2 : p.length = 2
    · rw [if_pos (by omega), if_pos (by omega), spec_l1In_eq, Option.bind_some]
      by_cases h3 : 0 ≤ rd p 0 ∧ rd p 0 ≤ w
      · rw [if_pos (by simp [h3]), if_pos (by omega), spec_l1In_eq, Option.bind_some]
        by_cases h4 : 0 ≤ rd p 1 ∧ rd p 1 ≤ w
        · have hok : okE w p = true := by unfold okE; simp [h2, h3, h4]
          have hnext := ih k (i + 1) (by omega) (fun j hj => by
            by_cases e : j = i
            · rw [e, hq]; exact h2
            · exact hp j (by omega)) (by omega)
          rw [prevOf_succ, hq] at hnext
          simp only [spec_IsGraph.j1, hok, Bool.true_and]
          rw [if_neg (by simp [h4])]
          by_cases hi : i = 0
          · subst hi
            rw [if_neg (by omega)]
            rw [show wrap64 (((0 : Nat) : Int) + 1) = ((0 + 1 : Nat) : Int) from wrs (by omega), hnext]
            simp [prevOf]
          · have e1 : prevOf A i = some (rd_L1 A ((i - 1 : Nat) : Int)) := by unfold prevOf; rw [if_neg hi]
            have hl := hp (i - 1) (by omega)
            rw [e1]
            rw [if_pos (by omega), show wrap64 ((i : Int) - 1) = ((i - 1 : Nat) : Int) by rw [wr (by omega) (by omega)]; omega]
            generalize rd_L1 A ((i - 1 : Nat) : Int) = q at hl ⊢
            rw [if_pos (by omega), if_pos (by omega), if_pos (by omega), if_pos (by omega), wrs (by omega), hnext]
            by_cases h5 : rd q 0 > rd p 0
            · rw [if_pos h5]
              have : lexlt q p = false := by unfold lexlt; simp; omega
              simp [this]
            · rw [if_neg h5]
              by_cases h6 : rd q 0 = rd p 0
              · rw [if_pos h6, if_pos (by omega), if_pos (by omega)]
                by_cases h7 : rd q 1 ≥ rd p 1
                · rw [if_pos h7]
                  have : lexlt q p = false := by unfold lexlt; simp; omega
                  simp [this]
                · rw [if_neg h7]
                  have : lexlt q p = true := by unfold lexlt; simp; omega
                  simp [this]
              · rw [if_neg h6]
                have : lexlt q p = true := by unfold lexlt; simp; omega
                simp [this]
        · have hok : okE w p = false := by unfold okE; simp; omega
          simp only [spec_IsGraph.j1, hok, Bool.false_and]
          rw [if_pos (by simp; omega)]
      · have hok : okE w p = false := by unfold okE; simp; omega
        rw [if_neg (by simp; omega)]
        simp [spec_IsGraph.j1, hok]
    · have hok : okE w p = false := by unfold okE; simp [h2]
      rw [if_neg (by omega)]
      simp [spec_IsGraph.j1, hok]
theorem spec_IsGraph_eq (n : Int) (A : List (List Int)) (hA : A.length ≤ 1048576) (k : Nat) (hk : 2 * A.length + 1 < k) : spec_IsGraph.f k n A = some (isG n A) := by
  have := spec_IsGraph_l n A hA A.length k 0 (by omega) (fun j hj => by omega) hk
  unfold spec_IsGraph.f isG
  rw [show ((0 : Nat) : Int) = 0 from rfl] at this
  rw [this]
  by_cases h : 0 ≤ n ∧ n ≤ 10
  · rw [wr (i := n - 1) (by omega) (by omega)]; simp [h, prevOf]
  · simp [h]
theorem spec_IsSet_l (n : Int) (A : List (List Int)) (S : List Int) (hS : S.length ≤ 1048576) (hn : 0 ≤ n ∧ n ≤ 10) : ∀ (d k i : Nat), i + d = S.length → d < k → spec_IsSet.l0 k S i n A = some (sl (n - 1) (prevS S i) (S.drop i)) := by
  intro d
  induction d with
  | zero =>
    intro k i hd hk
    obtain ⟨k, rfl⟩ := rounds_succ hk
    simp only [spec_IsSet.l0]; rw [if_neg (by omega), List.drop_eq_nil_of_le (by omega)]
    simp [sl]
  | succ d ih =>
    intro k i hd hk
    obtain ⟨k, rfl⟩ := rounds_succ hk
    have hnext := ih k (i + 1) (by omega) (by omega)
    rw [prevS_succ] at hnext
    simp only [spec_IsSet.l0]; rw [if_pos (by omega), if_pos (by omega), wr (i := n - 1) (by omega) (by omega), spec_l1In_eq, Option.bind_some, wrs (by omega), hnext, drop_rdS S i (by omega)]
    simp only [sl]
    generalize rd S (i : Int) = c
    by_cases h1 : 0 ≤ c ∧ c ≤ n - 1
    · rw [if_pos (by simp only [h1, and_self, decide_true])]
      simp only [h1, and_self, decide_true, Bool.true_and]
      by_cases hi : i = 0
      · subst hi
        rw [if_neg (by omega)]; simp [prevS]
      · have e1 : prevS S i = some (rd S ((i - 1 : Nat) : Int)) := by unfold prevS; rw [if_neg hi]
        rw [e1, if_pos (by omega), show wrap64 ((i : Int) - 1) = ((i - 1 : Nat) : Int) by rw [wr (by omega) (by omega)]; omega, if_pos (by omega), if_pos (by omega)]
        generalize rd S ((i - 1 : Nat) : Int) = q
        by_cases h2 : q ≥ c
        · rw [if_pos h2]
          have : decide (q < c) = false := by simp; omega
          simp [this]
        · rw [if_neg h2]
          have : decide (q < c) = true := by simp; omega
          simp [this]
    · rw [if_neg (by simp only [h1, decide_false, Bool.false_eq_true, not_false_eq_true])]; simp [h1]
theorem spec_IsSet_eq (n : Int) (A : List (List Int)) (S : List Int) (hA : A.length ≤ 1048576) (hS : S.length ≤ 1048576) (k : Nat) (hk : 2 * A.length + S.length + 1 < k) : spec_IsSet.f k n A S = some (isS n A S) := by
  unfold spec_IsSet.f isS
  rw [spec_IsGraph_eq n A hA k (by omega), Option.bind_some]
  by_cases h : isG n A = true
  · have := spec_IsSet_l n A S hS (isG_ok h).1 S.length k 0 (by omega) (by omega)
    rw [show ((0 : Nat) : Int) = 0 from rfl] at this
    rw [if_pos h, this, h]; simp [prevS]
  · rw [if_neg h]; simp [h]
theorem spec_l4Has_l (S : List Int) (c : Int) (hS : S.length ≤ 1099511627776) : ∀ (d k i : Nat), i + d = S.length → d < k → spec_l4Has.l0 k S c i = some (decide (c ∈ S.drop i)) := by
  intro d
  induction d with
  | zero =>
    intro k i hd hk
    obtain ⟨k, rfl⟩ := rounds_succ hk
    simp only [spec_l4Has.l0]; rw [if_neg (by omega), List.drop_eq_nil_of_le (by omega)]; simp
  | succ d ih =>
    intro k i hd hk
    obtain ⟨k, rfl⟩ := rounds_succ hk
    simp only [spec_l4Has.l0]; rw [if_pos (by omega), if_pos (by omega), wrs (by omega), ih k (i + 1) (by omega) (by omega)]
    have e : S.drop i = rd S i :: S.drop (i + 1) := by rw [rd_nat S i (by omega)]; exact List.drop_eq_getElem_cons _
    rw [e]
    by_cases h : rd S (i : Int) = c
    · rw [if_pos h]; simp [h]
    · rw [if_neg h]
      have : ¬ c = rd S (i : Int) := fun e => h e.symm
      simp [this]
theorem spec_l4Has_eq (S : List Int) (c : Int) (hS : S.length ≤ 1099511627776) (k : Nat) (hk : S.length < k) : spec_l4Has.f k S c = some (decide (c ∈ S)) := by
  have := spec_l4Has_l S c hS S.length k 0 (by omega) hk
  unfold spec_l4Has.f
  simpa using this
theorem hitb_drop (A : List (List Int)) (S : List Int) (k : Int) (i : Nat) (hi : i < A.length) : hitb (A.drop i) S k = (((rd (rd_L1 A (i : Int)) 1 == k) && S.contains (rd (rd_L1 A (i : Int)) 0)) || hitb (A.drop (i + 1)) S k) := by
  rw [rdL_drop A i hi]; unfold hitb; rw [List.any_cons]
theorem cl_from (n : Int) (i : Nat) (hi : (i : Int) < n) : (cl n).drop i = (i : Int) :: (cl n).drop (i + 1) := by
  have hl : i < (cl n).length := by rw [cl_length]; omega
  rw [List.drop_eq_getElem_cons hl]
  congr 1
  simp [cl]
theorem spec_HitBy_l1 (n : Int) (A : List (List Int)) (S : List Int) (c : Int) (o : List Int) (hA : A.length ≤ 1048576) (hS : S.length ≤ 1048576) (hg : isG n A = true) : ∀ (d k i : Nat) (b : Bool), i + d = A.length → o.length ≤ 16 → d + S.length + 1 < k → spec_HitBy.l1 k S o c b i n A = spec_HitBy.l0 (k - d - 1) S (if (b || hitb (A.drop i) S c) = true then o ++ [c] else o) (wrap64 (c + 1)) n A := by
  intro d
  induction d with
  | zero =>
    intro k i b hd ho hk
    obtain ⟨k, rfl⟩ := rounds_succ hk
    simp only [spec_HitBy.l1]; rw [if_neg (by omega), List.drop_eq_nil_of_le (by omega)]
    have : hitb [] S c = false := rfl
    rw [this, Bool.or_false]
    cases b
    · simp
    · simp; omega
  | succ d ih =>
    intro k i b hd ho hk
    obtain ⟨k, rfl⟩ := rounds_succ hk
    have h2 := isG_len2 hg i (by omega)
    rw [show k + 1 - (d + 1) - 1 = k - d - 1 by omega]
    simp only [spec_HitBy.l1]; rw [if_pos (by omega), wrs (by omega)]
    cases b with
    | true =>
      rw [if_pos rfl, ih k (i + 1) true (by omega) ho (by omega)]; simp
    | false =>
      rw [if_neg (by simp), if_pos (by omega), hitb_drop A S c i (by omega)]
      generalize rd_L1 A (i : Int) = p at h2 ⊢
      rw [if_pos (by omega)]
      by_cases h : rd p 1 = c
      · rw [if_pos h, if_pos (by omega), spec_l4Has_eq S _ (by omega) k (by omega), Option.bind_some, ih k (i + 1) _ (by omega) ho (by omega)]
        simp [h]
      · rw [if_neg h, ih k (i + 1) false (by omega) ho (by omega)]
        simp [h]
theorem spec_HitBy_l0 (n : Int) (A : List (List Int)) (S : List Int) (hA : A.length ≤ 1048576) (hS : S.length ≤ 1048576) (hg : isG n A = true) : ∀ (d k i : Nat) (o : List Int), i + d = n.toNat → o.length ≤ i → d * (A.length + 3) + 2 * A.length + S.length + 9 < k → spec_HitBy.l0 k S o i n A = some (o ++ ((cl n).drop i).filter (hitb A S)) := by
  have hn := (isG_ok hg).1
  intro d
  induction d with
  | zero =>
    intro k i o hd ho hk
    obtain ⟨k, rfl⟩ := rounds_succ hk
    obtain ⟨k, rfl⟩ := rounds_succ (show 0 < k by omega)
    simp only [spec_HitBy.l0, spec_HitBy.j1]; rw [if_neg (by omega), if_neg (by simp), List.drop_eq_nil_of_le (by rw [cl_length]; omega)]; simp
  | succ d ih =>
    intro k i o hd ho hk
    rw [Nat.succ_mul] at hk
    obtain ⟨k, rfl⟩ := rounds_succ hk
    obtain ⟨k, rfl⟩ := rounds_succ (show 0 < k by omega)
    simp only [spec_HitBy.l0]; rw [if_pos (by omega), spec_IsGraph_eq n A hA (k + 1) (by omega), Option.bind_some, hg]
    simp only [spec_HitBy.j1]; rw [if_pos trivial, show (0 : Int) = ((0 : Nat) : Int) from rfl, spec_HitBy_l1 n A S i o hA hS hg A.length k 0 false (by omega) (by omega) (by omega), wrs (by omega), Bool.false_or, List.drop_zero]
    by_cases h : hitb A S (i : Int) = true
    · rw [if_pos h, ih _ (i + 1) _ (by omega) (by rw [List.length_append, List.length_singleton]; omega) (by omega), cl_from n i (by omega), List.filter_cons_of_pos h, List.append_assoc]; rfl
    · rw [if_neg h, ih _ (i + 1) _ (by omega) (by omega) (by omega), cl_from n i (by omega), List.filter_cons_of_neg h]
theorem spec_HitBy_eq (n : Int) (A : List (List Int)) (S : List Int) (hA : A.length ≤ 1048576) (hS : S.length ≤ 1048576) (k : Nat) (hk : 12 * A.length + S.length + 40 < k) : spec_HitBy.f k n A S = some (hitG n A S) := by
  unfold spec_HitBy.f hitG
  by_cases h : isG n A = true
  · rw [if_pos h]
    have hn := (isG_ok h).1
    have hm : n.toNat * (A.length + 3) ≤ 10 * (A.length + 3) := Nat.mul_le_mul_right _ (by omega)
    have := spec_HitBy_l0 n A S hA hS h n.toNat k 0 [] (by omega) (by simp) (by omega)
    simpa [hit] using this
  · rw [if_neg h]
    obtain ⟨k, rfl⟩ := rounds_succ hk
    obtain ⟨k, rfl⟩ := rounds_succ (show 0 < k by omega)
    have hf : isG n A = false := by simpa using h
    simp only [spec_HitBy.l0]
    rw [spec_IsGraph_eq n A hA (k + 1) (by omega), Option.bind_some, hf]
    simp only [spec_HitBy.j1]
    split <;> simp
theorem spec_AttackersOf_l (n : Int) (A : List (List Int)) (c : Int) (hA : A.length ≤ 1048576) (hg : isG n A = true) : ∀ (d k i : Nat) (o : List Int), i + d = A.length → o.length ≤ i → 2 * d + 2 * A.length + 3 < k → spec_AttackersOf.l0 k c o i n A = some (o ++ attA (A.drop i) c) := by
  intro d
  induction d with
  | zero =>
    intro k i o hd ho hk
    obtain ⟨k, rfl⟩ := rounds_succ hk
    obtain ⟨k, rfl⟩ := rounds_succ (show 0 < k by omega)
    simp only [spec_AttackersOf.l0, spec_AttackersOf.j1]; rw [if_neg (by omega), if_neg (by simp), List.drop_eq_nil_of_le (by omega)]; simp [attA]
  | succ d ih =>
    intro k i o hd ho hk
    obtain ⟨k, rfl⟩ := rounds_succ hk
    obtain ⟨k, rfl⟩ := rounds_succ (show 0 < k by omega)
    have h2 := isG_len2 hg i (by omega)
    simp only [spec_AttackersOf.l0]; rw [if_pos (by omega), spec_IsGraph_eq n A hA (k + 1) (by omega), Option.bind_some, hg]
    simp only [spec_AttackersOf.j1]; rw [if_pos trivial, if_pos (by omega), if_pos (by omega), if_pos (by omega), wrs (by omega), rdL_drop A i (by omega)]
    generalize rd_L1 A (i : Int) = p at h2 ⊢
    by_cases h : rd p 1 = c
    · rw [if_pos h, if_pos (by omega), if_pos (by omega), ih k (i + 1) _ (by omega) (by rw [List.length_append, List.length_singleton]; omega) (by omega)]
      simp [attA, h]
    · rw [if_neg h, ih k (i + 1) _ (by omega) (by omega) (by omega)]
      simp [attA, h]
theorem spec_AttackersOf_eq (n : Int) (A : List (List Int)) (c : Int) (hA : A.length ≤ 1048576) (k : Nat) (hk : 4 * A.length + 3 < k) : spec_AttackersOf.f k n A c = some (att n A c) := by
  unfold spec_AttackersOf.f att
  by_cases h : isG n A = true
  · rw [if_pos h]
    have := spec_AttackersOf_l n A c hA h A.length k 0 [] (by omega) (by simp) (by omega)
    simpa using this
  · rw [if_neg h]
    obtain ⟨k, rfl⟩ := rounds_succ hk
    obtain ⟨k, rfl⟩ := rounds_succ (show 0 < k by omega)
    have hf : isG n A = false := by simpa using h
    simp only [spec_AttackersOf.l0]
    rw [spec_IsGraph_eq n A hA (k + 1) (by omega), Option.bind_some, hf]
    simp only [spec_AttackersOf.j1]
    split <;> simp
theorem spec_Defends_l (H L : List Int) (hH : H.length ≤ 10) (hL : L.length ≤ 1048576) : ∀ (d k i : Nat), i + d = L.length → d + 20 < k → spec_Defends.l0 k H L i = some ((L.drop i).all fun a => decide (a ∈ H)) := by
  intro d
  induction d with
  | zero =>
    intro k i hd hk
    obtain ⟨k, rfl⟩ := rounds_succ hk
    simp only [spec_Defends.l0]; rw [if_neg (by omega), List.drop_eq_nil_of_le (by omega)]; simp
  | succ d ih =>
    intro k i hd hk
    obtain ⟨k, rfl⟩ := rounds_succ hk
    simp only [spec_Defends.l0]; rw [if_pos (by omega), if_pos (by omega), spec_l4Has_eq H _ (by omega) k (by omega), Option.bind_some, wrs (by omega), ih k (i + 1) (by omega) (by omega), rd_drop L i (by omega), List.all_cons]
    by_cases h : rd L (i : Int) ∈ H
    · rw [if_pos (by simpa using h)]; simp [h]
    · rw [if_neg (by simpa using h)]; simp [h]
theorem spec_Defends_eq (n : Int) (A : List (List Int)) (S : List Int) (c : Int) (hA : A.length ≤ 1048576) (hS : S.length ≤ 1048576) (k : Nat) (hk : 12 * A.length + S.length + 60 < k) : spec_Defends.f k n A S c = some (defends n A S c) := by
  obtain ⟨k, rfl⟩ := rounds_succ hk
  unfold spec_Defends.f defends
  rw [spec_IsSet_eq n A S hA hS (k + 1) (by omega), Option.bind_some]
  simp only [spec_Defends.j0]
  by_cases h : isS n A S = true
  · have hn := (isG_ok (isS_ok h).1).1
    have hl := att_len n A c
    rw [if_pos h, wr (i := n - 1) (by omega) (by omega), spec_l1In_eq, Option.bind_some, h, Bool.true_and]
    by_cases h1 : 0 ≤ c ∧ c ≤ n - 1
    · have := spec_Defends_l (hitG n A S) (att n A c) (hitG_len n A S) (by omega) (att n A c).length k 0 (by omega) (by omega)
      simp only [List.drop_zero, Int.natCast_zero] at this
      rw [if_neg (by simp [h1]), spec_HitBy_eq n A S hA hS k (by omega), Option.bind_some, spec_AttackersOf_eq n A c hA k (by omega), Option.bind_some, this]
      simp [h1]
    · have h1b : decide (0 ≤ c ∧ c ≤ n - 1) = false := decide_eq_false h1
      rw [h1b]; simp
  · rw [if_neg h]; simp [h]
theorem spec_DefendedBy_l (n : Int) (A : List (List Int)) (S : List Int) (hA : A.length ≤ 1048576) (hS : S.length ≤ 1048576) (hs : isS n A S = true) : ∀ (d k i : Nat) (o : List Int), i + d = n.toNat → o.length ≤ i → 2 * d + 12 * A.length + 2 * S.length + 80 < k → spec_DefendedBy.l0 k S o i n A = some (o ++ ((cl n).drop i).filter (defends n A S)) := by
  have hn := (isG_ok (isS_ok hs).1).1
  intro d
  induction d with
  | zero =>
    intro k i o hd ho hk
    obtain ⟨k, rfl⟩ := rounds_succ hk
    obtain ⟨k, rfl⟩ := rounds_succ (show 0 < k by omega)
    simp only [spec_DefendedBy.l0, spec_DefendedBy.j1]; rw [if_neg (by omega), if_neg (by simp), List.drop_eq_nil_of_le (by rw [cl_length]; omega)]; simp
  | succ d ih =>
    intro k i o hd ho hk
    obtain ⟨k, rfl⟩ := rounds_succ hk
    obtain ⟨k, rfl⟩ := rounds_succ (show 0 < k by omega)
    simp only [spec_DefendedBy.l0]; rw [if_pos (by omega), spec_IsSet_eq n A S hA hS (k + 1) (by omega), Option.bind_some, hs]
    simp only [spec_DefendedBy.j1]; rw [if_pos trivial, spec_Defends_eq n A S _ hA hS k (by omega), Option.bind_some, wrs (by omega), clx_at n i (by omega)]
    by_cases h : defends n A S (i : Int) = true
    · rw [if_pos h, if_pos (by omega), ih k (i + 1) _ (by omega) (by rw [List.length_append, List.length_singleton]; omega) (by omega), List.filter_cons_of_pos h, List.append_assoc]; rfl
    · rw [if_neg h, ih k (i + 1) _ (by omega) (by omega) (by omega), List.filter_cons_of_neg h]
theorem spec_DefendedBy_eq (n : Int) (A : List (List Int)) (S : List Int) (hA : A.length ≤ 1048576) (hS : S.length ≤ 1048576) (k : Nat) (hk : 12 * A.length + 2 * S.length + 120 < k) : spec_DefendedBy.f k n A S = some (dbyG n A S) := by
  unfold spec_DefendedBy.f dbyG
  by_cases hs : isS n A S = true
  · have hn := (isG_ok (isS_ok hs).1).1
    have := spec_DefendedBy_l n A S hA hS hs n.toNat k 0 [] (by omega) (by simp) (by omega)
    rw [if_pos hs]
    simpa using this
  · have hf : isS n A S = false := by simpa using hs
    obtain ⟨k, rfl⟩ := rounds_succ hk
    obtain ⟨k, rfl⟩ := rounds_succ (show 0 < k by omega)
    simp only [spec_DefendedBy.l0]
    rw [spec_IsSet_eq n A S hA hS (k + 1) (by omega), Option.bind_some, hf]
    simp only [spec_DefendedBy.j1]
    split <;> simp
theorem spec_IsFree_l (n : Int) (A : List (List Int)) (S H : List Int) (hA : A.length ≤ 1048576) (hS : S.length ≤ 1048576) (hH : H.length ≤ 10) : ∀ (d k i : Nat), i + d = S.length → d + 2 * A.length + S.length + 20 < k → spec_IsFree.l0 k S H i n A = some (((S.drop i).all fun c => !decide (c ∈ H)) && isS n A S) := by
  intro d
  induction d with
  | zero =>
    intro k i hd hk
    obtain ⟨k, rfl⟩ := rounds_succ hk
    simp only [spec_IsFree.l0]; rw [if_neg (by omega), List.drop_eq_nil_of_le (by omega), spec_IsSet_eq n A S hA hS k (by omega), Option.bind_some]; simp
  | succ d ih =>
    intro k i hd hk
    obtain ⟨k, rfl⟩ := rounds_succ hk
    simp only [spec_IsFree.l0]; rw [if_pos (by omega), if_pos (by omega), spec_l4Has_eq H _ (by omega) k (by omega), Option.bind_some, wrs (by omega), ih k (i + 1) (by omega) (by omega), rd_drop S i (by omega), List.all_cons]
    by_cases h : rd S (i : Int) ∈ H
    · rw [if_pos (by simpa using h)]; simp [h]
    · rw [if_neg (by simpa using h)]; simp [h]
theorem spec_IsFree_eq (n : Int) (A : List (List Int)) (S : List Int) (hA : A.length ≤ 1048576) (hS : S.length ≤ 1048576) (k : Nat) (hk : 12 * A.length + 2 * S.length + 60 < k) : spec_IsFree.f k n A S = some (freeb n A S) := by
  unfold spec_IsFree.f freeb
  have := spec_IsFree_l n A S (hitG n A S) hA hS (hitG_len n A S) S.length k 0 (by omega) (by omega)
  rw [spec_HitBy_eq n A S hA hS k (by omega), Option.bind_some]
  rw [Bool.and_comm]
  simpa using this
theorem spec_EqualInts_l (a b : List Int) (hl : a.length ≤ 1048576) (hab : a.length = b.length) : ∀ (d k i : Nat), (∀ j, j < i → a[j]? = b[j]?) → i + d = a.length → d < k → spec_EqualInts.l0 k a b i = some (decide (a = b)) := by
  intro d
  induction d with
  | zero =>
    intro k i hp hd hk
    obtain ⟨k, rfl⟩ := rounds_succ hk
    simp only [spec_EqualInts.l0]; rw [if_neg (by omega)]
    have : a = b := by
      refine List.ext_getElem? fun j => ?_
      by_cases hj : j < i
      · exact hp j hj
      · rw [List.getElem?_eq_none (by omega), List.getElem?_eq_none (by omega)]
    simp [this]
  | succ d ih =>
    intro k i hp hd hk
    obtain ⟨k, rfl⟩ := rounds_succ hk
    simp only [spec_EqualInts.l0]; rw [if_pos (by omega), if_pos (by omega), if_pos (by omega)]
    by_cases e : rd a i = rd b i
    · rw [if_pos e, wrs (by omega)]
      refine ih k (i + 1) ?_ (by omega) (by omega)
      intro j hj
      by_cases e' : j = i
      · subst e'; rw [rd_some a j (by omega), rd_some b j (by omega), e]
      · exact hp j (by omega)
    · rw [if_neg e]
      have : ¬ a = b := fun h => e (by rw [h])
      simp [this]
theorem spec_EqualInts_eq (a b : List Int) (hl : a.length ≤ 1048576) (k : Nat) (hk : a.length < k) : spec_EqualInts.f k a b = some (decide (a = b)) := by
  unfold spec_EqualInts.f
  by_cases h : a.length = b.length
  · rw [if_pos (by omega)]
    exact spec_EqualInts_l a b hl h a.length k 0 (fun j hj => by omega) (by omega) hk
  · rw [if_neg (by omega)]
    have : ¬ a = b := fun e => h (by rw [e])
    simp [this]
theorem spec_IsComplete_eq (n : Int) (A : List (List Int)) (S : List Int) (hA : A.length ≤ 1048576) (hS : S.length ≤ 1048576) (k : Nat) (hk : 12 * A.length + 2 * S.length + 120 < k) : spec_IsComplete.f k n A S = some (compb n A S) := by
  have hl := dbyG_len n A S
  unfold spec_IsComplete.f compb
  rw [spec_IsFree_eq n A S hA hS k (by omega), Option.bind_some, spec_DefendedBy_eq n A S hA hS k (by omega), Option.bind_some, spec_EqualInts_eq (dbyG n A S) S (by omega) k (by omega), Option.bind_some]
  cases freeb n A S <;> simp
theorem l7_l (p q : List Int) (hp : p.length ≤ 1048576) : ∀ (d k i : Nat), i + d = p.length → i ≤ q.length → 2 * d + 2 < k → spec_l7Before.l0 k p q (i : Int) = some (Go.Proofs.YtelkfhlnejlheaaW.Pick.ltL (p.drop i) (q.drop i)) := by
  intro d
  induction d with
  | zero =>
    intro k i hd hq hk
    obtain ⟨k, rfl⟩ := rounds_succ hk
    obtain ⟨k, rfl⟩ := rounds_succ (show 0 < k by omega)
    rw [spec_l7Before.l0, if_neg (by omega), spec_l7Before.j1, if_neg (by simp), List.drop_eq_nil_of_le (show p.length ≤ i by omega)]
    by_cases h : i < q.length
    · rw [List.drop_eq_getElem_cons h]
      congr 1
      simp [Go.Proofs.YtelkfhlnejlheaaW.Pick.ltL, Go.Proofs.YtelkfhlnejlheaaW.Pick.cmpL]; omega
    · rw [List.drop_eq_nil_of_le (by omega)]
      congr 1
      simp [Go.Proofs.YtelkfhlnejlheaaW.Pick.ltL, Go.Proofs.YtelkfhlnejlheaaW.Pick.cmpL]; omega
  | succ d ih =>
    intro k i hd hq hk
    obtain ⟨k, rfl⟩ := rounds_succ hk
    obtain ⟨k, rfl⟩ := rounds_succ (show 0 < k by omega)
    rw [spec_l7Before.l0, if_pos (by omega), spec_l7Before.j1, List.drop_eq_getElem_cons (show i < p.length by omega)]
    by_cases h : i < q.length
    · rw [if_pos (by simp; omega), if_pos (by omega), if_pos (by omega), if_pos (by omega), List.drop_eq_getElem_cons h, rd_nat p i (by omega), rd_nat q i h]
      by_cases e : p[i] = q[i]
      · rw [if_pos e, wrs (by omega), ih k (i + 1) (by omega) (by omega) (by omega)]
        congr 1
        simp [Go.Proofs.YtelkfhlnejlheaaW.Pick.ltL, Go.Proofs.YtelkfhlnejlheaaW.Pick.cmpL, e]
      · rw [if_neg e]
        congr 1
        by_cases h1 : p[i] < q[i]
        · simp [Go.Proofs.YtelkfhlnejlheaaW.Pick.ltL, Go.Proofs.YtelkfhlnejlheaaW.Pick.cmpL, h1]
        · simp [Go.Proofs.YtelkfhlnejlheaaW.Pick.ltL, Go.Proofs.YtelkfhlnejlheaaW.Pick.cmpL, h1, show p[i] > q[i] by omega]
    · rw [if_neg (by simp; omega), List.drop_eq_nil_of_le (show q.length ≤ i by omega)]
      congr 1
      simp [Go.Proofs.YtelkfhlnejlheaaW.Pick.ltL, Go.Proofs.YtelkfhlnejlheaaW.Pick.cmpL]; omega
theorem l7_eq (p q : List Int) (hp : p.length ≤ 10) (k : Nat) (hk : 30 < k) : spec_l7Before.f k p q = some (Go.Proofs.YtelkfhlnejlheaaW.Pick.ltL p q) :=
  l7_l p q (by omega) p.length k 0 (by omega) (by omega) (by omega)
theorem spec_AC_l1 (n : Int) (A : List (List Int)) (hn : 0 ≤ n ∧ n ≤ 10) (x3 : List (List Int)) (m : Int) : ∀ (d i k : Nat) (S : List Int), i + d = n.toNat → S.length ≤ i →
    spec_AllComplete.l1 (k + d + 1) x3 m S (i : Int) n A = (spec_IsComplete.f k n A (S ++ ((cl n).drop i).filter (bitP m))).bind fun t => (if t = true then (spec_AllComplete.l2 k x3 m (S ++ ((cl n).drop i).filter (bitP m)) (x3.length : Int) n A) else (spec_AllComplete.l0 k x3 (wrap64 (m + 1)) n A)) := by
  intro d
  induction d with
  | zero =>
    intro i k S hd hS
    rw [Nat.add_zero, spec_AllComplete.l1, if_neg (by omega), List.drop_eq_nil_of_le (by rw [cl_length]; omega), List.filter_nil, List.append_nil]
  | succ d ih =>
    intro i k S hd hS
    rw [show k + (d + 1) + 1 = (k + d + 1) + 1 by omega]
    rw [spec_AllComplete.l1, if_pos (by omega), if_pos (by omega), clx_at n i (by omega), wrs (by omega)]
    by_cases h : Go.bits .and .i64 (shr .i64 m (i : Int)) 1 = 1
    · rw [if_pos h, Option.bind_some, if_pos (by simp only [List.length_singleton]; omega), ih (i + 1) k _ (by omega) (by rw [List.length_append, List.length_singleton]; omega), List.filter_cons_of_pos (by simp [bitP, h]), List.append_assoc]; rfl
    · rw [if_neg h, ih (i + 1) k _ (by omega) (by omega), List.filter_cons_of_neg (by simp [bitP, h])]
theorem spec_AC_l2 (n : Int) (A : List (List Int)) (x3 : List (List Int)) (m : Int) (S : List Int) (hS : S.length ≤ 10) (hx : x3.length ≤ 1024) : ∀ (j k : Nat), j ≤ x3.length → (∀ i p, j ≤ i → x3[i]? = some p → Go.Proofs.YtelkfhlnejlheaaW.Pick.ltL S p = true) → j + 100 < k →
    ∃ c k', c ≤ x3.length ∧ k ≤ k' + j + 1 ∧ k' < k ∧ (∀ i p, c ≤ i → x3[i]? = some p → Go.Proofs.YtelkfhlnejlheaaW.Pick.ltL S p = true) ∧ (∀ p, 0 < c → x3[c - 1]? = some p → Go.Proofs.YtelkfhlnejlheaaW.Pick.ltL S p = false) ∧ spec_AllComplete.l2 k x3 m S (j : Int) n A = spec_AllComplete.l0 k' (x3.take c ++ S :: x3.drop c) (wrap64 (m + 1)) n A := by
  intro j
  induction j with
  | zero =>
    intro k hj hs hk
    obtain ⟨k, rfl⟩ := rounds_succ hk
    refine ⟨0, k, by omega, by omega, by omega, hs, fun p h => absurd h (by omega), ?_⟩
    rw [spec_AllComplete.l2, if_neg (by omega)]
    simp only [Option.bind_some]
    rw [if_pos (by omega), if_pos (by omega), if_pos (by simp), if_pos (by simp), if_pos (by simp; omega)]
    simp
  | succ j ih =>
    intro k hj hs hk
    obtain ⟨k, rfl⟩ := rounds_succ hk
    rw [spec_AllComplete.l2, if_pos (by omega), show wrap64 (((j + 1 : Nat) : Int) - 1) = (j : Int) by unfold wrap64; omega, if_pos (by omega), if_pos (by omega), l7_eq S _ hS k (by omega), Option.bind_some]
    by_cases h : Go.Proofs.YtelkfhlnejlheaaW.Pick.ltL S (rd_L1 x3 (j : Int)) = true
    · rw [if_pos h]
      obtain ⟨c, k', e1, e2, e3, e4, e5, e6⟩ := ih k (by omega) (fun i p hi hp => by
        by_cases e : i = j
        · subst e; rw [rdL_some x3 i (by omega)] at hp; cases hp; exact h
        · exact hs i p (by omega) hp) (by omega)
      exact ⟨c, k', e1, by omega, by omega, e4, e5, e6⟩
    · rw [if_neg h]
      refine ⟨j + 1, k, hj, by omega, by omega, hs, fun p _ hp => ?_, ?_⟩
      · rw [Nat.add_sub_cancel, rdL_some x3 j (by omega)] at hp; cases hp; simpa using h
      · simp only [Option.bind_some]
        have hl : (x3.take (j + 1)).length = j + 1 := by rw [List.length_take]; omega
        rw [show (((j + 1 : Nat) : Int)).toNat = j + 1 by omega]
        rw [if_pos (by omega), if_pos (by omega), if_pos (by simp only [List.length_nil]; omega), if_pos (by simp only [List.nil_append, List.length_singleton]; omega), if_pos (by simp only [List.nil_append, List.length_append, List.length_singleton, List.length_drop]; omega)]
        simp
theorem put_sorted {x : List (List Int)} {S : List Int} {c : Nat} (hx : x.Pairwise fun p q => Go.Proofs.YtelkfhlnejlheaaW.Pick.leL p q = true) (h1 : ∀ i p, c ≤ i → x[i]? = some p → Go.Proofs.YtelkfhlnejlheaaW.Pick.ltL S p = true) (h2 : ∀ p, 0 < c → x[c - 1]? = some p → Go.Proofs.YtelkfhlnejlheaaW.Pick.ltL S p = false) (hc : c ≤ x.length) : (x.take c ++ S :: x.drop c).Pairwise fun p q => Go.Proofs.YtelkfhlnejlheaaW.Pick.leL p q = true := by
  have hx' := hx
  rw [← List.take_append_drop c x, List.pairwise_append] at hx'
  obtain ⟨a1, a2, a3⟩ := hx'
  have hd : ∀ p ∈ x.drop c, Go.Proofs.YtelkfhlnejlheaaW.Pick.ltL S p = true := by
    intro p hp
    obtain ⟨i, hi, rfl⟩ := List.getElem_of_mem hp
    rw [List.length_drop] at hi
    rw [List.getElem_drop]
    exact h1 (c + i) _ (by omega) (List.getElem?_eq_getElem (by omega))
  have hle : ∀ p, Go.Proofs.YtelkfhlnejlheaaW.Pick.ltL S p = true → Go.Proofs.YtelkfhlnejlheaaW.Pick.leL S p = true := by
    intro p hp
    unfold Go.Proofs.YtelkfhlnejlheaaW.Pick.leL
    cases e : Go.Proofs.YtelkfhlnejlheaaW.Pick.ltL p S with
    | false => rfl
    | true =>
      have := Go.Proofs.YtelkfhlnejlheaaW.Pick.ltL_trans hp e
      rw [Go.Proofs.YtelkfhlnejlheaaW.Pick.ltL_irrefl] at this; cases this
  have ht : ∀ p ∈ x.take c, Go.Proofs.YtelkfhlnejlheaaW.Pick.leL p S = true := by
    intro p hp
    obtain ⟨i, hi, rfl⟩ := List.getElem_of_mem hp
    rw [List.length_take] at hi
    rw [List.getElem_take]
    have hlast := h2 _ (by omega) (List.getElem?_eq_getElem (show c - 1 < x.length by omega))
    have h3 : Go.Proofs.YtelkfhlnejlheaaW.Pick.leL x[c - 1] S = true := by unfold Go.Proofs.YtelkfhlnejlheaaW.Pick.leL; rw [hlast]; rfl
    by_cases e : i = c - 1
    · subst e; exact h3
    · exact Go.Proofs.YtelkfhlnejlheaaW.Pick.leL_trans _ _ _ (List.pairwise_iff_getElem.1 hx i (c - 1) (by omega) (by omega) (by omega)) h3
  rw [List.pairwise_append, List.pairwise_cons]
  refine ⟨a1, ⟨fun p hp => hle p (hd p hp), a2⟩, fun p hp q hq => ?_⟩
  rcases List.mem_cons.1 hq with rfl | hq
  · exact ht p hp
  · exact a3 p hp q hq
theorem put_perm (x : List (List Int)) (S : List Int) (c : Nat) (R : List (List Int)) : ((x.take c ++ S :: x.drop c) ++ R).Perm (x ++ S :: R) := by
  have h1 : (x.take c ++ S :: x.drop c).Perm (S :: x) := by
    have := @List.perm_middle _ S (x.take c) (x.drop c)
    rwa [List.take_append_drop] at this
  have h2 : (x ++ S :: R).Perm (S :: (x ++ R)) := List.perm_middle
  exact (h1.append_right R).trans h2.symm
theorem spec_AC_l0 (n : Int) (A : List (List Int)) (hA : A.length ≤ 1048576) (hn : 0 ≤ n ∧ n ≤ 10) (M : Nat) (hM : M ≤ 1024) (hsh : shl .i64 1 n = (M : Int)) : ∀ (d k i : Nat) (x3 : List (List Int)), i + d = M → x3.length ≤ i → x3.Pairwise (fun p q => Go.Proofs.YtelkfhlnejlheaaW.Pick.leL p q = true) → 1100 * d + 12 * A.length + 2000 < k → spec_AllComplete.l0 k x3 (i : Int) n A = some (Go.Proofs.YtelkfhlnejlheaaW.Pick.sortL (x3 ++ restC n A M i)) := by
  intro d
  induction d with
  | zero =>
    intro k i x3 hd hx hp hk
    obtain ⟨k, rfl⟩ := rounds_succ hk
    obtain rfl : i = M := by omega
    rw [spec_AllComplete.l0, if_pos hn.1, hsh, if_neg (by omega), restC_end, List.append_nil, ← Go.Proofs.YtelkfhlnejlheaaW.Pick.sortL_unique (List.Perm.refl x3) hp]
  | succ d ih =>
    intro k i x3 hd hx hp hk
    obtain ⟨k, rfl⟩ := rounds_succ hk
    obtain ⟨k, rfl⟩ : ∃ j, k = j + n.toNat + 1 := ⟨k - n.toNat - 1, by omega⟩
    have h1 := spec_AC_l1 n A hn x3 (i : Int) n.toNat 0 k [] (by omega) (by simp)
    rw [List.drop_zero, List.nil_append, show ((0 : Nat) : Int) = 0 from rfl, show (cl n).filter (bitP (i : Int)) = setM n (i : Int) from rfl] at h1
    have hs := setM_len hn (i : Int)
    rw [spec_AllComplete.l0, if_pos hn.1, hsh, if_pos (by omega), h1, spec_IsComplete_eq n A _ hA (by omega) k (by omega), Option.bind_some, restC_at n A M i (by omega)]
    by_cases h : compb n A (setM n (i : Int)) = true
    · rw [if_pos h, if_pos h]
      obtain ⟨c, k', e1, e2, e3, e4, e5, e6⟩ := spec_AC_l2 n A x3 (i : Int) (setM n (i : Int)) hs (by omega) x3.length k (Nat.le_refl _) (fun j p hj hq => by rw [List.getElem?_eq_none hj] at hq; cases hq) (by omega)
      have hlen : (x3.take c ++ setM n (i : Int) :: x3.drop c).length = x3.length + 1 := by
        simp only [List.length_append, List.length_cons, List.length_take, List.length_drop]; omega
      rw [e6, wrs (by omega), ih k' (i + 1) _ (by omega) (by omega) (put_sorted hp e4 e5 e1) (by omega), sortL_perm (put_perm _ _ _ _)]
    · rw [if_neg h, if_neg h, wrs (by omega), ih k (i + 1) _ (by omega) (by omega) hp (by omega)]
theorem spec_AllComplete_eq (n : Int) (A : List (List Int)) (hA : A.length ≤ 1048576) (k : Nat) (hk : 12 * A.length + 1200000 < k) : spec_AllComplete.f k n A = some (allC n A) := by
  unfold spec_AllComplete.f allC
  rw [Option.bind_some, spec_IsGraph_eq n A hA k (by omega), Option.bind_some]
  by_cases hg : isG n A = true
  · have hn := (isG_ok hg).1
    have hM := (pow_small n.toNat (by omega)).2
    have := spec_AC_l0 n A hA hn (2 ^ n.toNat) hM (shl_n hn) (2 ^ n.toNat) k 0 [] (by omega) (by simp) List.Pairwise.nil (by omega)
    rw [if_pos hg, if_pos hg]
    simpa using this
  · rw [if_neg hg, if_neg hg]
theorem wraps_i64 (n : Int) (h₀ : 0 ≤ n) (h₁ : n < 2 ^ 63) : IntKind.i64.wrap n = n := by rw [IntKind.wrap_i64]; omega
theorem and127 (n : Int) (h0 : 0 ≤ n) (h1 : n < 9223372036854775808) : Go.bits .and .i64 n 127 = n % 128 := bits_mask .i64 63 (by decide) wraps_i64 7 (by decide) n h0 h1
theorem and127u (n : Int) (h0 : 0 ≤ n) (h1 : n < 256) : Go.bits .and .u8 n 127 = n % 128 := bits_mask .u8 8 (by decide) wraps_u8 7 (by decide) n h0 h1
theorem or_add (k : IntKind) (j : Nat) (hj : j ≤ k.bits) (hk : ∀ n : Int, 0 ≤ n → n < 2 ^ j → k.wrap n = n) (i : Nat)
    (x y : Int) (hx₀ : 0 ≤ x) (hx : x % 2 ^ i = 0) (hx₁ : x < 2 ^ j) (hy₀ : 0 ≤ y) (hy : y < 2 ^ i) (hy₁ : y < 2 ^ j) : Go.bits .or k y x = y + x := by
  have h := bits_join k j hj hk i x y hx₀ hx hx₁ hy₀ hy hy₁
  rw [Int.add_comm, ← h]
  obtain ⟨a, rfl⟩ := Int.eq_ofNat_of_zero_le hx₀
  obtain ⟨b, rfl⟩ := Int.eq_ofNat_of_zero_le hy₀
  have ha : a < 2 ^ j := by exact_mod_cast hx₁
  have hb : b < 2 ^ j := by exact_mod_cast hy₁
  rw [(bits_nat k j hj hk b a hb ha).2, (bits_nat k j hj hk a b ha hb).2, Nat.or_comm]
theorem or128 (y : Int) (h0 : 0 ≤ y) (h1 : y < 128) : Go.bits .or .i64 y 128 = y + 128 := or_add .i64 63 (by decide) wraps_i64 7 128 y (by decide) (by decide) (by decide) h0 h1 (by omega)
theorem or128u (y : Int) (h0 : 0 ≤ y) (h1 : y < 128) : Go.bits .or .u8 y 128 = y + 128 := or_add .u8 8 (by decide) wraps_u8 7 128 y (by decide) (by decide) (by decide) h0 h1 (by omega)
/-- Is a list within another one? -/
def part (a b : List Int) : Bool := a.all fun x => decide (x ∈ b)
def pI (L : List (List Int)) (a : List Int) : Bool := !(L.any fun b => decide (a.length < b.length) && part a b)
def pS (L : List (List Int)) (i : Nat) : Bool := (List.range L.length).all fun q => decide (q = i) || !part (L.getD i []) (L.getD q [])
theorem sub_sublist : ∀ (b a : List Int), a.Pairwise (· < ·) → b.Pairwise (· < ·) → (∀ x ∈ a, x ∈ b) → a.Sublist b
  | [], a, _, _, h => by
    cases a with
    | nil => exact List.Sublist.refl _
    | cons x a => exact absurd (h x List.mem_cons_self) (by simp)
  | y :: b, [], _, _, _ => List.nil_sublist _
  | y :: b, x :: a, ha, hb, h => by
    rw [List.pairwise_cons] at ha hb
    by_cases e : x = y
    · subst e
      refine List.Sublist.cons_cons _ (sub_sublist b a ha.2 hb.2 (fun z hz => ?_))
      rcases List.mem_cons.1 (h z (List.mem_cons_of_mem _ hz)) with e | e
      · have := ha.1 z hz; omega
      · exact e
    · have hx : x ∈ b := (List.mem_cons.1 (h x List.mem_cons_self)).resolve_left e
      have hxy := hb.1 x hx
      refine List.Sublist.cons _ (sub_sublist b (x :: a) (List.pairwise_cons.2 ha) hb.2 (fun z hz => ?_))
      rcases List.mem_cons.1 (h z hz) with e2 | e2
      · rcases List.mem_cons.1 hz with e3 | e3
        · omega
        · have := ha.1 z e3; omega
      · exact e2
structure goodL (L : List (List Int)) : Prop where
  nd : L.Nodup
  so : ∀ p ∈ L, p.Pairwise (· < ·)
  le : ∀ p ∈ L, p.length ≤ 10
  ln : L.length ≤ 1024
theorem pS_pI {L : List (List Int)} (g : goodL L) (i : Nat) (hi : i < L.length) : pS L i = pI L (L.getD i []) := by
  have hgi : L.getD i [] = L[i] := by rw [List.getD_eq_getElem?_getD, List.getElem?_eq_getElem hi]; rfl
  unfold pS pI
  rw [hgi, Bool.eq_iff_iff]
  simp only [List.all_eq_true, List.mem_range, Bool.or_eq_true, decide_eq_true_eq, Bool.not_eq_true', List.any_eq_false, Bool.and_eq_true, not_and, Bool.not_eq_true]
  constructor
  · intro h b hb hlt
    obtain ⟨q, hq, rfl⟩ := List.getElem_of_mem hb
    rcases h q hq with e | e
    · subst e; omega
    · rw [List.getD_eq_getElem?_getD, List.getElem?_eq_getElem hq] at e; exact e
  · intro h q hq
    by_cases e : q = i
    · exact .inl e
    · refine .inr ?_
      rw [List.getD_eq_getElem?_getD, List.getElem?_eq_getElem hq, Option.getD_some]
      cases hp : part L[i] L[q] with
      | false => rfl
      | true =>
        exfalso
        have hsub : ∀ x ∈ L[i], x ∈ L[q] := by
          unfold part at hp
          rw [List.all_eq_true] at hp
          exact fun x hx => of_decide_eq_true (hp x hx)
        have hs := sub_sublist L[q] L[i] (g.so _ (List.getElem_mem hi)) (g.so _ (List.getElem_mem hq)) hsub
        have hl := hs.length_le
        by_cases el : L[i].length = L[q].length
        · exact e ((List.getElem_inj g.nd).1 (hs.eq_of_length el).symm)
        · have := h L[q] (List.getElem_mem hq) (by omega)
          rw [hp] at this; cases this
theorem and1 (n : Int) (h0 : 0 ≤ n) (h1 : n < 9223372036854775808) : Go.bits .and .i64 n 1 = n % 2 := bits_mask .i64 63 (by decide) wraps_i64 1 (by decide) n h0 h1
theorem bitP_nat (m i : Nat) (hm : m < 1024) (hi : i < 10) : bitP (m : Int) (i : Int) = m.testBit i := by
  unfold bitP shr
  rw [show min ((i : Int)).toNat IntKind.i64.bits = i by simp [IntKind.bits]; omega]
  have h : (m : Int) / 2 ^ i = ((m / 2 ^ i : Nat) : Int) := by push_cast; rfl
  have hle : m / 2 ^ i ≤ m := Nat.div_le_self _ _
  rw [h, Nat.testBit_eq_decide_div_mod_eq]
  generalize m / 2 ^ i = q at hle
  rw [and1 _ (by omega) (by omega)]
  congr 1
  apply propext
  omega
theorem mem_setM {n : Int} {m i : Nat} : (i : Int) ∈ setM n (m : Int) ↔ i < n.toNat ∧ bitP (m : Int) (i : Int) = true := by
  unfold setM
  rw [List.mem_filter]
  have : (i : Int) ∈ cl n ↔ i < n.toNat := by
    unfold cl
    rw [List.mem_map]
    constructor
    · rintro ⟨j, hj, e⟩
      rw [List.mem_range] at hj; omega
    · intro h
      exact ⟨i, List.mem_range.2 h, rfl⟩
  rw [this]
theorem setM_inj {n : Int} (hn : 0 ≤ n ∧ n ≤ 10) {a b : Nat} (ha : a < 2 ^ n.toNat) (hb : b < 2 ^ n.toNat) (h : setM n (a : Int) = setM n (b : Int)) : a = b := by
  have hM := (pow_small n.toNat (by omega)).2
  refine Nat.eq_of_testBit_eq (fun i => ?_)
  by_cases hi : i < n.toNat
  · rw [← bitP_nat a i (by omega) (by omega), ← bitP_nat b i (by omega) (by omega), Bool.eq_iff_iff]
    have h1 := mem_setM (n := n) (m := a) (i := i)
    have h2 := mem_setM (n := n) (m := b) (i := i)
    rw [h] at h1
    constructor
    · intro e; exact (h2.1 (h1.2 ⟨hi, e⟩)).2
    · intro e; exact (h1.1 (h2.2 ⟨hi, e⟩)).2
  · have hp : 2 ^ n.toNat ≤ 2 ^ i := Nat.pow_le_pow_right (by omega) (by omega)
    rw [Nat.testBit_lt_two_pow (by omega), Nat.testBit_lt_two_pow (by omega)]
theorem cl_asc (n : Int) : (cl n).Pairwise (· < ·) := by
  unfold cl
  rw [List.pairwise_map]
  exact List.pairwise_lt_range.imp (fun h => by omega)
theorem allC_good (n : Int) (A : List (List Int)) : goodL (allC n A) := by
  refine ⟨?_, ?_, fun p h => allC_mem h, allC_len n A⟩
  · unfold allC
    split
    · rename_i hg
      have hn := (isG_ok hg).1
      refine (List.mergeSort_perm _ _).nodup_iff.2 ?_
      unfold restC
      refine List.Nodup.sublist List.filter_sublist ?_
      rw [List.drop_zero, List.nodup_iff_pairwise_ne, List.pairwise_map]
      refine (List.nodup_iff_pairwise_ne.1 List.nodup_range).imp_of_mem (fun {a b} ha hb hne e => hne (setM_inj hn (List.mem_range.1 ha) (List.mem_range.1 hb) e))
    · exact List.nodup_nil
  · intro p hp
    unfold allC at hp
    split at hp
    · have h1 := (List.mergeSort_perm _ _).mem_iff.1 hp
      unfold restC at h1
      obtain ⟨h2, _⟩ := List.mem_filter.1 h1
      obtain ⟨m, _, rfl⟩ := List.mem_map.1 h2
      exact (cl_asc n).sublist List.filter_sublist
    · cases hp
def pref (n : Int) (A : List (List Int)) : List (List Int) := (allC n A).filter (pI (allC n A))
def cred (n : Int) (A : List (List Int)) (c : Int) : Bool := (pref n A).any fun x => decide (c ∈ x)
theorem pref_mem {n : Int} {A : List (List Int)} {p : List Int} (h : p ∈ pref n A) : p.length ≤ 10 := allC_mem (List.mem_filter.1 h).1
theorem pref_len (n : Int) (A : List (List Int)) : (pref n A).length ≤ 1024 := Nat.le_trans (List.length_filter_le _ _) (allC_len n A)
theorem spart_l (a b : List Int) (hb : b.length ≤ 1000) (ha : a.length ≤ 1000) : ∀ (d k i : Nat), i + d = a.length → d + 1100 < k → spec_l7Part.l0 k a b (i : Int) = some (part (a.drop i) b) := by
  intro d
  induction d with
  | zero =>
    intro k i hd hk
    obtain ⟨k, rfl⟩ := rounds_succ hk
    rw [spec_l7Part.l0, if_neg (by omega), List.drop_eq_nil_of_le (by omega)]; rfl
  | succ d ih =>
    intro k i hd hk
    obtain ⟨k, rfl⟩ := rounds_succ hk
    rw [spec_l7Part.l0, if_pos (by omega), if_pos (by omega), spec_l4Has_eq b _ (by omega) k (by omega), Option.bind_some, wrs (by omega), ih k (i + 1) (by omega) (by omega), List.drop_eq_getElem_cons (show i < a.length by omega), rd_nat a i (by omega)]
    unfold part
    rw [List.all_cons]
    by_cases h : a[i] ∈ b
    · rw [if_pos (by simp [h])]; simp [h]
    · rw [if_neg (by simp [h])]; simp [h]
theorem spart_eq (a b : List Int) (ha : a.length ≤ 10) (hb : b.length ≤ 10) (k : Nat) (hk : 1200 < k) : spec_l7Part.f k a b = some (part a b) := by
  unfold spec_l7Part.f
  rw [show (0 : Int) = ((0 : Nat) : Int) from rfl, spart_l a b (by omega) (by omega) a.length k 0 (by omega) (by omega), List.drop_zero]
theorem spref_l1 (L : List (List Int)) (g : goodL L) (o : List (List Int)) (i : Nat) (hi : i < L.length) (ho : o.length ≤ i) : ∀ (d j k : Nat) (b : Bool), j + d = L.length → 1300 < k → spec_Preferred.l1 (k + d + 1) o L (i : Int) b (j : Int) = spec_Preferred.l0 k (if (b && ((List.range L.length).drop j).all fun q => decide (q = i) || !part (L.getD i []) (L.getD q [])) = true then o ++ [L.getD i []] else o) L ((i + 1 : Nat) : Int) := by
  have hln := g.ln
  have hgi : rd_L1 L (i : Int) = L.getD i [] := by rw [rdL_nat L i hi, List.getD_eq_getElem?_getD, List.getElem?_eq_getElem hi]; rfl
  intro d
  induction d with
  | zero =>
    intro j k b hd hk
    rw [Nat.add_zero, spec_Preferred.l1, if_neg (by omega), List.drop_eq_nil_of_le (by simp; omega), List.all_nil, Bool.and_true, wrs (by omega)]
    cases b with
    | true => rw [if_pos rfl, if_pos (by omega), if_pos (by omega), if_pos (by omega), if_pos rfl, hgi]
    | false => rw [if_neg (by simp), if_neg (by simp)]
  | succ d ih =>
    intro j k b hd hk
    rw [show k + (d + 1) + 1 = (k + d + 1) + 1 by omega, spec_Preferred.l1, if_pos (by omega), wrs (by omega), List.drop_eq_getElem_cons (show j < (List.range L.length).length by simp; omega), List.getElem_range, List.all_cons]
    cases b with
    | false => rw [if_neg (by simp), ih (j + 1) k false (by omega) hk]; simp
    | true =>
      rw [if_pos rfl]
      by_cases e : j = i
      · subst e
        rw [if_pos rfl, ih (j + 1) k true (by omega) hk]; simp
      · have hgj : rd_L1 L (j : Int) = L.getD j [] := by rw [rdL_nat L j (by omega), List.getD_eq_getElem?_getD, List.getElem?_eq_getElem (by omega)]; rfl
        have h1 := g.le _ (rdL_mem L i hi)
        have h2 := g.le _ (rdL_mem L j (by omega))
        rw [if_neg (by omega), if_pos (by omega), if_pos (by omega), if_pos (by omega), spart_eq _ _ h1 h2 _ (by omega), Option.bind_some, ih (j + 1) k _ (by omega) hk, hgi, hgj]
        simp [e]
theorem spref_l0 (L : List (List Int)) (g : goodL L) : ∀ (d k i : Nat) (o : List (List Int)), i + d = L.length → o.length ≤ i → 1100 * d + 1500 < k → spec_Preferred.l0 k o L (i : Int) = some (o ++ (L.drop i).filter (pI L)) := by
  have hln := g.ln
  intro d
  induction d with
  | zero =>
    intro k i o hd ho hk
    obtain ⟨k, rfl⟩ := rounds_succ hk
    rw [spec_Preferred.l0, if_neg (by omega), List.drop_eq_nil_of_le (by omega), List.filter_nil, List.append_nil]
  | succ d ih =>
    intro k i o hd ho hk
    obtain ⟨k, rfl⟩ := rounds_succ hk
    obtain ⟨k, rfl⟩ : ∃ j, k = j + L.length + 1 := ⟨k - L.length - 1, by omega⟩
    have h1 := spref_l1 L g o i (by omega) ho L.length 0 k true (by omega) (by omega)
    rw [List.drop_zero, Bool.true_and, show ((0 : Nat) : Int) = 0 from rfl] at h1
    have hS : ((List.range L.length).all fun q => decide (q = i) || !part (L.getD i []) (L.getD q [])) = pI L (L.getD i []) := pS_pI g i (by omega)
    have hgi : rd_L1 L (i : Int) = L.getD i [] := by rw [rdL_nat L i (by omega), List.getD_eq_getElem?_getD, List.getElem?_eq_getElem (by omega)]; rfl
    rw [spec_Preferred.l0, if_pos (by omega), h1, hS, rdL_drop L i (by omega), hgi]
    by_cases h : pI L (L.getD i []) = true
    · rw [if_pos h, ih k (i + 1) _ (by omega) (by rw [List.length_append, List.length_singleton]; omega) (by omega), List.filter_cons_of_pos h, List.append_assoc]; rfl
    · rw [if_neg h, ih k (i + 1) _ (by omega) (by omega) (by omega), List.filter_cons_of_neg h]
theorem spec_Preferred_eq (n : Int) (A : List (List Int)) (hA : A.length ≤ 1048576) (k : Nat) (hk : 12 * A.length + 1200000 < k) : spec_Preferred.f k n A = some (pref n A) := by
  unfold spec_Preferred.f pref
  rw [spec_AllComplete_eq n A hA k hk, Option.bind_some]
  have := spref_l0 (allC n A) (allC_good n A) (allC n A).length k 0 [] (by omega) (by simp) (by have := allC_len n A; omega)
  simpa using this
theorem scred_l (P : List (List Int)) (c : Int) (hm : ∀ r ∈ P, r.length ≤ 10) (hP : P.length ≤ 1024) : ∀ (d k i : Nat), i + d = P.length → d + 1300 < k → spec_IsCredible.l0 k c P (i : Int) = some ((P.drop i).any fun x => decide (c ∈ x)) := by
  intro d
  induction d with
  | zero =>
    intro k i hd hk
    obtain ⟨k, rfl⟩ := rounds_succ hk
    rw [spec_IsCredible.l0, if_neg (by omega), List.drop_eq_nil_of_le (by omega)]; rfl
  | succ d ih =>
    intro k i hd hk
    obtain ⟨k, rfl⟩ := rounds_succ hk
    have hq := hm _ (rdL_mem P i (by omega))
    rw [spec_IsCredible.l0, if_pos (by omega), if_pos (by omega), spec_l4Has_eq _ _ (by omega) k (by omega), Option.bind_some, wrs (by omega), ih k (i + 1) (by omega) (by omega), rdL_drop P i (by omega), List.any_cons]
    by_cases h : c ∈ rd_L1 P (i : Int)
    · rw [if_pos (by simp [h])]; simp [h]
    · rw [if_neg (by simp [h])]; simp [h]
theorem spec_IsCredible_eq (n : Int) (A : List (List Int)) (c : Int) (hA : A.length ≤ 1048576) (k : Nat) (hk : 12 * A.length + 1200000 < k) : spec_IsCredible.f k n A c = some (cred n A c) := by
  unfold spec_IsCredible.f cred
  rw [spec_Preferred_eq n A hA k hk, Option.bind_some]
  have := scred_l (pref n A) c (fun r h => pref_mem h) (pref_len n A) (pref n A).length k 0 (by omega) (by have := pref_len n A; omega)
  simpa using this
theorem impl_InRange_eq (a b c : Int) : impl_InRange.f a b c = some (decide (b ≤ a ∧ a ≤ c)) := by
  unfold impl_InRange.f; by_cases h : b ≤ a <;> simp [h]
theorem cmpi_eq (a b : Int) : cmp_Compare_int.f a b = some (if a < b then -1 else if a > b then 1 else 0) := by
  unfold cmp_Compare_int.f cmp_isNaN_int.f
  simp only [Option.bind_some, bne_self_eq_false, Bool.false_eq_true, if_false]
  split
  · rfl
  · split <;> rfl
theorem cmp2_eq (p q : List Int) (hp : p.length = 2) (hq : q.length = 2) (k : Nat) (hk : 3 < k) : ∃ t, slices_Compare_int_int.f k p q = some t ∧ (t ≥ 0 ↔ lexlt p q = false) := by
  obtain ⟨k, rfl⟩ : ∃ m, k = m + 3 := ⟨k - 3, by omega⟩
  have l1 : lexlt p q = decide (rd p 0 < rd q 0 ∨ (rd p 0 = rd q 0 ∧ rd p 1 < rd q 1)) := rfl
  rw [l1]
  unfold slices_Compare_int_int.f
  rw [slices_Compare_int_int.l0, if_pos (by omega), if_pos (by omega), if_pos (by omega), if_neg (by omega), if_pos (by omega), cmpi_eq, Option.bind_some]
  by_cases h1 : rd p 0 < rd q 0
  · rw [if_pos h1, if_neg (by omega)]; exact ⟨-1, rfl, by simp [h1]⟩
  · rw [if_neg h1]
    by_cases h2 : rd p 0 > rd q 0
    · rw [if_pos h2, if_neg (by omega)]; exact ⟨1, rfl, by simp; omega⟩
    · rw [if_neg h2, if_pos rfl, show wrap64 ((0 : Int) + 1) = 1 from wr (by omega) (by omega)]
      rw [slices_Compare_int_int.l0, if_pos (by omega), if_pos (by omega), if_pos (by omega), if_neg (by omega), if_pos (by omega), cmpi_eq, Option.bind_some]
      by_cases h3 : rd p 1 < rd q 1
      · rw [if_pos h3, if_neg (by omega)]; exact ⟨-1, rfl, by simp [h3]; omega⟩
      · rw [if_neg h3]
        by_cases h4 : rd p 1 > rd q 1
        · rw [if_pos h4, if_neg (by omega)]; exact ⟨1, rfl, by simp; omega⟩
        · rw [if_neg h4, if_pos rfl, show wrap64 ((1 : Int) + 1) = 2 from wr (by omega) (by omega)]
          rw [slices_Compare_int_int.l0, if_neg (by omega), if_neg (by omega)]
          exact ⟨0, rfl, by simp; omega⟩
theorem impl_isClaim_eq (n : Int) (A : List (List Int)) (c : Int) (h : 0 ≤ n ∧ n ≤ 10) : impl_isClaim.f n A c = some (decide (0 ≤ c ∧ c ≤ n - 1)) := by
  unfold impl_isClaim.f
  rw [wr (i := n - 1) (by omega) (by omega), impl_InRange_eq, Option.bind_some]
theorem impl_IsGraph_l (n : Int) (A : List (List Int)) (hA : A.length ≤ 1048576) (hn : 0 ≤ n ∧ n ≤ 10) : ∀ (d k i : Nat), i + d = A.length → (∀ j, j < i → (rd_L1 A (j : Int)).length = 2) → d + 4 < k →
    impl_IsGraph.l0 k A (A.length : Int) i n A = some (gl (n - 1) (prevOf A i) (A.drop i)) := by
  intro d
  induction d with
  | zero =>
    intro k i hd hp hk
    obtain ⟨k, rfl⟩ := rounds_succ hk
    simp only [impl_IsGraph.l0]; rw [if_neg (by omega), List.drop_eq_nil_of_le (by omega)]
    simp [gl]
  | succ d ih =>
    intro k i hd hp hk
    obtain ⟨k, rfl⟩ := rounds_succ hk
    simp only [impl_IsGraph.l0]; rw [if_pos (by omega), if_pos (by omega), if_pos (by omega), rdL_drop A i (by omega)]
    simp only [gl]
    generalize hq : rd_L1 A (i : Int) = p
    by_cases h2 : p.length = 2
    · rw [if_pos (by omega), if_pos (by omega), impl_isClaim_eq n A _ hn, Option.bind_some]
      by_cases h3 : 0 ≤ rd p 0 ∧ rd p 0 ≤ n - 1
      · rw [if_pos (by simp only [h3, and_self, decide_true]), if_pos (by omega), impl_isClaim_eq n A _ hn, Option.bind_some]
        by_cases h4 : 0 ≤ rd p 1 ∧ rd p 1 ≤ n - 1
        · have hok : okE (n - 1) p = true := by unfold okE; simp only [h2, h3, h4, and_self, decide_true]
          have hnext := ih k (i + 1) (by omega) (fun j hj => by
            by_cases e : j = i
            · rw [e, hq]; exact h2
            · exact hp j (by omega)) (by omega)
          rw [prevOf_succ, hq] at hnext
          rw [if_pos (by simp only [h4, and_self, decide_true])]
          simp only [hok, Bool.true_and]
          by_cases hi : i = 0
          · subst hi
            rw [if_neg (by omega)]
            rw [show wrap64 (((0 : Nat) : Int) + 1) = ((0 + 1 : Nat) : Int) from wrs (by omega), hnext]
            simp [prevOf]
          · have e1 : prevOf A i = some (rd_L1 A ((i - 1 : Nat) : Int)) := by unfold prevOf; rw [if_neg hi]
            have hl := hp (i - 1) (by omega)
            rw [e1]
            rw [if_pos (by omega), show wrap64 ((i : Int) - 1) = ((i - 1 : Nat) : Int) by rw [wr (by omega) (by omega)]; omega]
            generalize rd_L1 A ((i - 1 : Nat) : Int) = q at hl ⊢
            rw [if_pos (by omega), if_pos (by omega)]
            obtain ⟨t, ht, htt⟩ := cmp2_eq q p hl h2 k (by omega)
            rw [ht, Option.bind_some, wrs (by omega), hnext]
            by_cases h5 : t ≥ 0
            · rw [if_pos h5]; simp [htt.1 h5]
            · rw [if_neg h5]
              have : lexlt q p = true := by
                cases e : lexlt q p with
                | true => rfl
                | false => exact absurd (htt.2 e) h5
              simp [this]
        · have hok : okE (n - 1) p = false := by unfold okE; simp only [decide_eq_false_iff_not]; omega
          rw [if_neg (by simp only [decide_eq_true_eq]; omega)]; simp [hok]
      · have hok : okE (n - 1) p = false := by unfold okE; simp only [decide_eq_false_iff_not]; omega
        rw [if_neg (by simp only [decide_eq_true_eq]; omega)]; simp [hok]
    · have hok : okE (n - 1) p = false := by unfold okE; simp [h2]
      rw [if_neg (by omega)]; simp [hok]
theorem impl_IsGraph_eq (n : Int) (A : List (List Int)) (hA : A.length ≤ 1048576) (k : Nat) (hk : A.length + 4 < k) : impl_IsGraph.f k n A = some (isG n A) := by
  unfold impl_IsGraph.f isG
  rw [impl_InRange_eq, Option.bind_some]
  by_cases h : 0 ≤ n ∧ n ≤ 10
  · rw [if_pos (by simp [h])]
    have := impl_IsGraph_l n A hA h A.length k 0 (by omega) (fun j hj => by omega) hk
    rw [show ((0 : Nat) : Int) = 0 from rfl] at this
    rw [this]
    simp [h, prevOf]
  · rw [if_neg (by simp only [decide_eq_true_eq]; exact h)]; simp [h]
theorem impl_IsSet_l (n : Int) (A : List (List Int)) (S : List Int) (hS : S.length ≤ 1048576) (hn : 0 ≤ n ∧ n ≤ 10) : ∀ (d k i : Nat), i + d = S.length → d < k → impl_IsSet.l0 k S S (S.length : Int) i n A = some (sl (n - 1) (prevS S i) (S.drop i)) := by
  intro d
  induction d with
  | zero =>
    intro k i hd hk
    obtain ⟨k, rfl⟩ := rounds_succ hk
    simp only [impl_IsSet.l0]; rw [if_neg (by omega), List.drop_eq_nil_of_le (by omega)]
    simp [sl]
  | succ d ih =>
    intro k i hd hk
    obtain ⟨k, rfl⟩ := rounds_succ hk
    have hnext := ih k (i + 1) (by omega) (by omega)
    rw [prevS_succ] at hnext
    simp only [impl_IsSet.l0]; rw [if_pos (by omega), if_pos (by omega), if_pos (by omega), impl_isClaim_eq n A _ hn, Option.bind_some, wrs (by omega), hnext, drop_rdS S i (by omega)]
    simp only [sl]
    generalize rd S (i : Int) = c
    by_cases h1 : 0 ≤ c ∧ c ≤ n - 1
    · rw [if_pos (by simp only [h1, and_self, decide_true])]
      simp only [h1, and_self, decide_true, Bool.true_and]
      by_cases hi : i = 0
      · subst hi
        rw [if_neg (by omega)]; simp [prevS]
      · have e1 : prevS S i = some (rd S ((i - 1 : Nat) : Int)) := by unfold prevS; rw [if_neg hi]
        rw [e1, if_pos (by omega), show wrap64 ((i : Int) - 1) = ((i - 1 : Nat) : Int) by rw [wr (by omega) (by omega)]; omega, if_pos (by omega), if_pos (by omega)]
        generalize rd S ((i - 1 : Nat) : Int) = q
        by_cases h2 : c ≤ q
        · rw [if_pos h2]
          have : decide (q < c) = false := by simp; omega
          simp [this]
        · rw [if_neg h2]
          have : decide (q < c) = true := by simp; omega
          simp [this]
    · rw [if_neg (by simp only [h1, decide_false, Bool.false_eq_true, not_false_eq_true])]; simp [h1]
theorem impl_IsSet_eq (n : Int) (A : List (List Int)) (S : List Int) (hA : A.length ≤ 1048576) (hS : S.length ≤ 1048576) (k : Nat) (hk : A.length + S.length + 4 < k) : impl_IsSet.f k n A S = some (isS n A S) := by
  unfold impl_IsSet.f isS
  rw [impl_IsGraph_eq n A hA k (by omega), Option.bind_some]
  by_cases h : isG n A = true
  · have := impl_IsSet_l n A S hS (isG_ok h).1 S.length k 0 (by omega) (by omega)
    rw [show ((0 : Nat) : Int) = 0 from rfl] at this
    rw [if_pos h, this, h]; simp [prevS]
  · rw [if_neg h]; simp [h]
theorem impl_VictimsOf_l (n : Int) (A : List (List Int)) (c : Int) (hA : A.length ≤ 1048576) (hg : isG n A = true) : ∀ (d k i : Nat) (o : List Int), i + d = A.length → o.length ≤ i → d < k → impl_VictimsOf.l0 k c o A (A.length : Int) i = some (o ++ vicA (A.drop i) c) := by
  intro d
  induction d with
  | zero =>
    intro k i o hd ho hk
    obtain ⟨k, rfl⟩ := rounds_succ hk
    simp only [impl_VictimsOf.l0]; rw [if_neg (by omega), List.drop_eq_nil_of_le (by omega)]; simp [vicA]
  | succ d ih =>
    intro k i o hd ho hk
    obtain ⟨k, rfl⟩ := rounds_succ hk
    have h2 := isG_len2 hg i (by omega)
    simp only [impl_VictimsOf.l0]; rw [if_pos (by omega), if_pos (by omega), if_pos (by omega), if_pos (by omega), wrs (by omega), rdL_drop A i (by omega)]
    generalize rd_L1 A (i : Int) = p at h2 ⊢
    by_cases h : rd p 0 = c
    · rw [if_pos h, if_pos (by omega), if_pos (by omega), ih k (i + 1) _ (by omega) (by rw [List.length_append, List.length_singleton]; omega) (by omega)]
      simp [vicA, h]
    · rw [if_neg h, ih k (i + 1) _ (by omega) (by omega) (by omega)]
      simp [vicA, h]
theorem impl_VictimsOf_eq (n : Int) (A : List (List Int)) (c : Int) (hA : A.length ≤ 1048576) (k : Nat) (hk : A.length + 4 < k) : impl_VictimsOf.f k n A c = some (vic n A c) := by
  unfold impl_VictimsOf.f vic
  rw [Option.bind_some, impl_IsGraph_eq n A hA k hk, Option.bind_some]
  by_cases h : isG n A = true
  · rw [if_pos h, if_pos h]
    have := impl_VictimsOf_l n A c hA h A.length k 0 [] (by omega) (by simp) (by omega)
    simpa using this
  · rw [if_neg h, if_neg h]
theorem sorted_ext {a b : List Int} (ha : a.Pairwise (· < ·)) (hb : b.Pairwise (· < ·)) (h : ∀ x, x ∈ a ↔ x ∈ b) : a = b := by
  induction a generalizing b with
  | nil =>
    cases b with
    | nil => rfl
    | cons y b => exact absurd ((h y).2 (List.mem_cons_self ..)) (by simp)
  | cons x a ih =>
    cases b with
    | nil => exact absurd ((h x).1 (List.mem_cons_self ..)) (by simp)
    | cons y b =>
      rw [List.pairwise_cons] at ha hb
      have hxy : x = y := by
        rcases List.mem_cons.1 ((h x).1 (List.mem_cons_self ..)) with e | e
        · exact e
        · rcases List.mem_cons.1 ((h y).2 (List.mem_cons_self ..)) with e' | e'
          · exact e'.symm
          · have := hb.1 x e; have := ha.1 y e'; omega
      subst hxy
      congr 1
      refine ih ha.2 hb.2 fun z => ?_
      constructor
      · intro hz
        rcases List.mem_cons.1 ((h z).1 (List.mem_cons_of_mem _ hz)) with e | e
        · subst e; exact absurd (ha.1 z hz) (by omega)
        · exact e
      · intro hz
        rcases List.mem_cons.1 ((h z).2 (List.mem_cons_of_mem _ hz)) with e | e
        · subst e; exact absurd (hb.1 z hz) (by omega)
        · exact e
theorem mono_at {l : List Int} (h : l.Pairwise (· ≤ ·)) {i j : Nat} (hij : i ≤ j) (hj : j < l.length) : l.toArray[i]! ≤ l.toArray[j]! := by
  have hi : i < l.length := by omega
  simp only [List.getElem!_toArray, List.getElem!_eq_getElem?_getD, List.getElem?_eq_getElem hi, List.getElem?_eq_getElem hj, Option.getD_some]
  rcases Nat.lt_or_ge i j with h1 | h1
  · exact List.pairwise_iff_getElem.1 h i j hi hj h1
  · have : i = j := by omega
    subst this; exact Int.le_refl _
theorem compact_at {l : List Int} (h : l.Pairwise (· ≤ ·)) : ∀ m, m ≤ l.length → (Go.Lib.compactUpTo l.toArray m).Pairwise (· < ·) ∧ (∀ x, x ∈ Go.Lib.compactUpTo l.toArray m ↔ ∃ j, j < m ∧ l.toArray[j]! = x) := by
  intro m
  induction m with
  | zero => intro _; exact ⟨by simp [Go.Lib.compactUpTo], fun x => by simp [Go.Lib.compactUpTo]⟩
  | succ m ih =>
    intro hm
    obtain ⟨h1, h2⟩ := ih (by omega)
    rw [Go.Lib.compactUpTo_succ]
    by_cases hk : Go.Lib.keeps l.toArray m = true
    · rw [if_pos hk]
      have hne : m = 0 ∨ l.toArray[m]! ≠ l.toArray[m - 1]! := by simpa [Go.Lib.keeps] using hk
      refine ⟨?_, fun x => ?_⟩
      · rw [List.pairwise_append]
        refine ⟨h1, List.pairwise_singleton _ _, fun a ha b hb => ?_⟩
        rw [List.mem_singleton] at hb
        subst hb
        obtain ⟨j, hj, rfl⟩ := (h2 a).1 ha
        have e1 := mono_at h (show j ≤ m - 1 by omega) (by omega)
        have e2 := mono_at h (show m - 1 ≤ m by omega) (by omega)
        rcases hne with h0 | h0
        · omega
        · have : l.toArray[m - 1]! ≠ l.toArray[m]! := fun e => h0 e.symm
          omega
      · rw [List.mem_append, h2, List.mem_singleton]
        constructor
        · rintro (⟨j, hj, e⟩ | e)
          · exact ⟨j, by omega, e⟩
          · exact ⟨m, by omega, e.symm⟩
        · rintro ⟨j, hj, e⟩
          by_cases hjm : j = m
          · subst hjm; exact .inr e.symm
          · exact .inl ⟨j, by omega, e⟩
    · rw [if_neg hk, List.append_nil]
      have hne : m ≠ 0 ∧ l.toArray[m]! = l.toArray[m - 1]! := by
        have : ¬ (m = 0 ∨ l.toArray[m]! ≠ l.toArray[m - 1]!) := by simpa [Go.Lib.keeps] using hk
        exact ⟨fun e => this (.inl e), Decidable.byContradiction fun e => this (.inr e)⟩
      refine ⟨h1, fun x => ?_⟩
      rw [h2]
      constructor
      · rintro ⟨j, hj, e⟩; exact ⟨j, by omega, e⟩
      · rintro ⟨j, hj, e⟩
        by_cases hjm : j = m
        · subst hjm; exact ⟨j - 1, by omega, by rw [← hne.2]; exact e⟩
        · exact ⟨j, by omega, e⟩
theorem sortedc (l : List Int) : (l.mergeSort fun x y => decide (x ≤ y)).Pairwise (· ≤ ·) := by
  have := List.pairwise_mergeSort (le := fun x y : Int => decide (x ≤ y)) (fun a b c h1 h2 => by simp at *; omega) (fun a b => by simp; omega) l
  exact this.imp (fun h => by simpa using h)
theorem compact_sorted (l : List Int) : (Go.Lib.compact (l.mergeSort fun x y => decide (x ≤ y))).Pairwise (· < ·) ∧ ∀ x, x ∈ Go.Lib.compact (l.mergeSort fun x y => decide (x ≤ y)) ↔ x ∈ l := by
  have h := compact_at (sortedc l) _ (Nat.le_refl _)
  refine ⟨h.1, fun x => ?_⟩
  unfold Go.Lib.compact
  rw [h.2, ← List.mem_mergeSort (le := fun x y => decide (x ≤ y))]
  generalize (l.mergeSort fun x y => decide (x ≤ y)) = q
  rw [List.mem_iff_getElem]
  constructor
  · rintro ⟨j, hj, e⟩
    exact ⟨j, hj, by simpa [List.getElem!_eq_getElem?_getD, List.getElem?_eq_getElem hj] using e⟩
  · rintro ⟨j, hj, e⟩
    exact ⟨j, hj, by simpa [List.getElem!_eq_getElem?_getD, List.getElem?_eq_getElem hj] using e⟩
theorem flat_len (n : Int) (A : List (List Int)) (S : List Int) : (S.flatMap (vic n A)).length ≤ S.length * A.length := by
  induction S with
  | nil => simp
  | cons s S ih =>
    rw [List.flatMap_cons, List.length_append, List.length_cons, Nat.succ_mul]
    have := vic_len n A s
    omega
theorem impl_HitBy_l (n : Int) (A : List (List Int)) (S : List Int) (hA : A.length ≤ 1048576) (hS : S.length ≤ 1048576) : ∀ (d k i : Nat) (o : List Int), i + d = S.length → o.length ≤ i * 1048576 → d + A.length + 5 < k → impl_HitBy.l0 k n A o S (S.length : Int) i = some (o ++ (S.drop i).flatMap (vic n A)) := by
  intro d
  induction d with
  | zero =>
    intro k i o hd ho hk
    obtain ⟨k, rfl⟩ := rounds_succ hk
    simp only [impl_HitBy.l0]; rw [if_neg (by omega), List.drop_eq_nil_of_le (by omega)]; simp
  | succ d ih =>
    intro k i o hd ho hk
    obtain ⟨k, rfl⟩ := rounds_succ hk
    have hv := vic_len n A (rd S (i : Int))
    simp only [impl_HitBy.l0]; rw [if_pos (by omega), if_pos (by omega), if_pos (by omega), impl_VictimsOf_eq n A _ hA k (by omega), Option.bind_some, if_pos (by omega), wrs (by omega), ih k (i + 1) _ (by omega) (by rw [List.length_append]; omega) (by omega)]
    have e : S.drop i = rd S i :: S.drop (i + 1) := by rw [rd_nat S i (by omega)]; exact List.drop_eq_getElem_cons _
    rw [e, List.flatMap_cons, List.append_assoc]
theorem impl_HitBy_eq (n : Int) (A : List (List Int)) (S : List Int) (hA : A.length ≤ 1048576) (hS : S.length ≤ 1048576) (k : Nat) (hk : S.length + A.length + 5 < k) : impl_HitBy.f k n A S = some (hitG n A S) := by
  unfold impl_HitBy.f
  have h := impl_HitBy_l n A S hA hS S.length k 0 [] (by omega) (by simp) (by omega)
  simp only [List.drop_zero, List.nil_append, Int.natCast_zero] at h
  have hl := flat_len n A S
  have hl2 : S.length * A.length ≤ 1048576 * 1048576 := Nat.mul_le_mul hS hA
  rw [h, Option.bind_some, if_pos (by omega)]
  congr 1
  unfold hitG Go.Proofs.YtelkfhlnejlheaaW.Sorts.sorted
  obtain ⟨c1, c2⟩ := compact_sorted (S.flatMap (vic n A))
  by_cases hg : isG n A = true
  · rw [if_pos hg]
    refine sorted_ext c1 (hit_sorted A n S) fun x => ?_
    rw [c2, mem_hit hg, hitb_iff, List.mem_flatMap]
    have hvv : ∀ a, vic n A a = vicA A a := fun a => by unfold vic; rw [if_pos hg]
    simp only [hvv]; unfold vicA
    constructor
    · rintro ⟨s, hs, hx⟩
      obtain ⟨p, hp, e⟩ := List.mem_map.1 hx
      obtain ⟨hp1, hp2⟩ := List.mem_filter.1 hp
      have hp2 := beq_iff_eq.1 hp2
      exact ⟨p, hp1, e, by rw [hp2]; exact hs⟩
    · rintro ⟨p, hp, e, hs⟩
      exact ⟨rd p 0, hs, List.mem_map.2 ⟨p, List.mem_filter.2 ⟨hp, by simp⟩, e⟩⟩
  · rw [if_neg hg]
    have : S.flatMap (vic n A) = [] := by
      rw [List.flatMap_eq_nil_iff]
      intro s _
      unfold vic; rw [if_neg hg]
    rw [this]
    simp [Go.Lib.compact, Go.Lib.compactUpTo]
theorem impl_AttackersOf_l (n : Int) (A : List (List Int)) (c : Int) (hA : A.length ≤ 1048576) (hg : isG n A = true) : ∀ (d k i : Nat) (o : List Int), i + d = A.length → o.length ≤ i → d < k → impl_AttackersOf.l0 k c o A (A.length : Int) i = some (o ++ attA (A.drop i) c) := by
  intro d
  induction d with
  | zero =>
    intro k i o hd ho hk
    obtain ⟨k, rfl⟩ := rounds_succ hk
    simp only [impl_AttackersOf.l0]; rw [if_neg (by omega), List.drop_eq_nil_of_le (by omega)]; simp [attA]
  | succ d ih =>
    intro k i o hd ho hk
    obtain ⟨k, rfl⟩ := rounds_succ hk
    have h2 := isG_len2 hg i (by omega)
    simp only [impl_AttackersOf.l0]; rw [if_pos (by omega), if_pos (by omega), if_pos (by omega), if_pos (by omega), wrs (by omega), rdL_drop A i (by omega)]
    generalize rd_L1 A (i : Int) = p at h2 ⊢
    by_cases h : rd p 1 = c
    · rw [if_pos h, if_pos (by omega), if_pos (by omega), ih k (i + 1) _ (by omega) (by rw [List.length_append, List.length_singleton]; omega) (by omega)]
      simp [attA, h]
    · rw [if_neg h, ih k (i + 1) _ (by omega) (by omega) (by omega)]
      simp [attA, h]
theorem impl_AttackersOf_eq (n : Int) (A : List (List Int)) (c : Int) (hA : A.length ≤ 1048576) (k : Nat) (hk : A.length + 4 < k) : impl_AttackersOf.f k n A c = some (att n A c) := by
  unfold impl_AttackersOf.f att
  rw [Option.bind_some, impl_IsGraph_eq n A hA k hk, Option.bind_some]
  by_cases h : isG n A = true
  · rw [if_pos h, if_pos h]
    have := impl_AttackersOf_l n A c hA h A.length k 0 [] (by omega) (by simp) (by omega)
    simpa using this
  · rw [if_neg h, if_neg h]
theorem idx_l (S : List Int) (c : Int) (hS : S.length ≤ 1099511627776) : ∀ (d k i : Nat), i + d = S.length → d < k → ∃ t, slices_Index_int_int.l0 k S c (S.length : Int) i = some t ∧ (t ≥ 0 ↔ c ∈ S.drop i) := by
  intro d
  induction d with
  | zero =>
    intro k i hd hk
    obtain ⟨k, rfl⟩ := rounds_succ hk
    simp only [slices_Index_int_int.l0]; rw [if_neg (by omega), List.drop_eq_nil_of_le (by omega)]
    exact ⟨-1, rfl, by simp⟩
  | succ d ih =>
    intro k i hd hk
    obtain ⟨k, rfl⟩ := rounds_succ hk
    simp only [slices_Index_int_int.l0]; rw [if_pos (by omega), if_pos (by omega), if_pos (by omega), wrs (by omega)]
    have e : S.drop i = rd S i :: S.drop (i + 1) := by rw [rd_nat S i (by omega)]; exact List.drop_eq_getElem_cons _
    rw [e]
    by_cases h : c = rd S (i : Int)
    · rw [if_pos h]; exact ⟨i, rfl, by simp [← h]⟩
    · rw [if_neg h]
      obtain ⟨t, ht, h2⟩ := ih k (i + 1) (by omega) (by omega)
      exact ⟨t, ht, by rw [h2]; simp [h]⟩
theorem contains_eq (S : List Int) (c : Int) (hS : S.length ≤ 1099511627776) (k : Nat) (hk : S.length < k) : slices_Contains_int_int.f k S c = some (decide (c ∈ S)) := by
  obtain ⟨t, ht, h⟩ := idx_l S c hS S.length k 0 (by omega) hk
  rw [List.drop_zero] at h
  unfold slices_Contains_int_int.f slices_Index_int_int.f
  rw [show (0 : Int) = ((0 : Nat) : Int) from rfl, ht, Option.bind_some]
  simp [← h]
theorem impl_Defends_l (H L : List Int) (hH : H.length ≤ 10) (hL : L.length ≤ 1048576) : ∀ (d k i : Nat), i + d = L.length → d + 20 < k → impl_Defends.l0 k H L (L.length : Int) i = some ((L.drop i).all fun a => decide (a ∈ H)) := by
  intro d
  induction d with
  | zero =>
    intro k i hd hk
    obtain ⟨k, rfl⟩ := rounds_succ hk
    simp only [impl_Defends.l0]; rw [if_neg (by omega), List.drop_eq_nil_of_le (by omega)]; simp
  | succ d ih =>
    intro k i hd hk
    obtain ⟨k, rfl⟩ := rounds_succ hk
    simp only [impl_Defends.l0]; rw [if_pos (by omega), if_pos (by omega), if_pos (by omega), contains_eq H _ (by omega) k (by omega), Option.bind_some, wrs (by omega), ih k (i + 1) (by omega) (by omega), rd_drop L i (by omega), List.all_cons]
    by_cases h : rd L (i : Int) ∈ H
    · rw [if_pos (by simpa using h)]; simp [h]
    · rw [if_neg (by simpa using h)]; simp [h]
theorem impl_Defends_eq (n : Int) (A : List (List Int)) (S : List Int) (c : Int) (hA : A.length ≤ 1048576) (hS : S.length ≤ 1048576) (k : Nat) (hk : A.length + S.length + 60 < k) : impl_Defends.f k n A S c = some (defends n A S c) := by
  obtain ⟨k, rfl⟩ := rounds_succ hk
  unfold impl_Defends.f defends
  rw [impl_IsSet_eq n A S hA hS (k + 1) (by omega), Option.bind_some]
  simp only [impl_Defends.j0]
  by_cases h : isS n A S = true
  · have hn := (isG_ok (isS_ok h).1).1
    have hl := att_len n A c
    rw [if_pos h]
    unfold impl_isClaim.f
    rw [wr (i := n - 1) (by omega) (by omega), impl_InRange_eq, Option.bind_some, Option.bind_some, h, Bool.true_and]
    by_cases h1 : 0 ≤ c ∧ c ≤ n - 1
    · have := impl_Defends_l (hitG n A S) (att n A c) (hitG_len n A S) (by omega) (att n A c).length k 0 (by omega) (by omega)
      simp only [List.drop_zero, Int.natCast_zero] at this
      rw [if_neg (by simp [h1]), impl_HitBy_eq n A S hA hS k (by omega), Option.bind_some, impl_AttackersOf_eq n A c hA k (by omega), Option.bind_some, this]
      simp [h1]
    · have h1b : decide (0 ≤ c ∧ c ≤ n - 1) = false := decide_eq_false h1
      rw [h1b]; simp
  · rw [if_neg h]; simp [h]
theorem impl_DefendedBy_l (n : Int) (A : List (List Int)) (S : List Int) (hA : A.length ≤ 1048576) (hS : S.length ≤ 1048576) (hn : 0 ≤ n ∧ n ≤ 10) : ∀ (d k i : Nat) (o : List Int), i + d = n.toNat → o.length ≤ i → d + A.length + S.length + 70 < k → impl_DefendedBy.l0 k S o n i n A = some (o ++ ((cl n).drop i).filter (defends n A S)) := by
  intro d
  induction d with
  | zero =>
    intro k i o hd ho hk
    obtain ⟨k, rfl⟩ := rounds_succ hk
    simp only [impl_DefendedBy.l0]; rw [if_neg (by omega), List.drop_eq_nil_of_le (by rw [cl_length]; omega)]; simp
  | succ d ih =>
    intro k i o hd ho hk
    obtain ⟨k, rfl⟩ := rounds_succ hk
    simp only [impl_DefendedBy.l0]; rw [if_pos (by omega), impl_Defends_eq n A S _ hA hS k (by omega), Option.bind_some, wrs (by omega), clx_at n i (by omega)]
    by_cases h : defends n A S (i : Int) = true
    · rw [if_pos h, if_pos (by omega), ih k (i + 1) _ (by omega) (by rw [List.length_append, List.length_singleton]; omega) (by omega), List.filter_cons_of_pos h, List.append_assoc]; rfl
    · rw [if_neg h, ih k (i + 1) _ (by omega) (by omega) (by omega), List.filter_cons_of_neg h]
theorem impl_DefendedBy_eq (n : Int) (A : List (List Int)) (S : List Int) (hA : A.length ≤ 1048576) (hS : S.length ≤ 1048576) (k : Nat) (hk : A.length + S.length + 90 < k) : impl_DefendedBy.f k n A S = some (dbyG n A S) := by
  unfold impl_DefendedBy.f dbyG
  rw [Option.bind_some, impl_IsSet_eq n A S hA hS k (by omega), Option.bind_some]
  by_cases hs : isS n A S = true
  · have hn := (isG_ok (isS_ok hs).1).1
    have := impl_DefendedBy_l n A S hA hS hn n.toNat k 0 [] (by omega) (by simp) (by omega)
    rw [if_pos hs, if_pos hs]
    simpa using this
  · rw [if_neg hs, if_neg hs]
theorem impl_IsFree_l (S H : List Int) (hS : S.length ≤ 1048576) (hH : H.length ≤ 10) : ∀ (d k i : Nat), i + d = H.length → d + S.length + 2 < k → impl_IsFree.l0 k S H (H.length : Int) i = some ((H.drop i).all fun c => !decide (c ∈ S)) := by
  intro d
  induction d with
  | zero =>
    intro k i hd hk
    obtain ⟨k, rfl⟩ := rounds_succ hk
    simp only [impl_IsFree.l0]; rw [if_neg (by omega), List.drop_eq_nil_of_le (by omega)]; simp
  | succ d ih =>
    intro k i hd hk
    obtain ⟨k, rfl⟩ := rounds_succ hk
    simp only [impl_IsFree.l0]; rw [if_pos (by omega), if_pos (by omega), if_pos (by omega), contains_eq S _ (by omega) k (by omega), Option.bind_some, wrs (by omega), ih k (i + 1) (by omega) (by omega), rd_drop H i (by omega), List.all_cons]
    by_cases h : rd H (i : Int) ∈ S
    · rw [if_pos (by simpa using h)]; simp [h]
    · rw [if_neg (by simpa using h)]; simp [h]
theorem all_swap (S H : List Int) : (H.all fun c => !decide (c ∈ S)) = (S.all fun c => !decide (c ∈ H)) := by
  rw [Bool.eq_iff_iff]
  simp only [List.all_eq_true, Bool.not_eq_true', decide_eq_false_iff_not]
  exact ⟨fun h c hc hh => h c hh hc, fun h c hc hh => h c hh hc⟩
theorem impl_IsFree_eq (n : Int) (A : List (List Int)) (S : List Int) (hA : A.length ≤ 1048576) (hS : S.length ≤ 1048576) (k : Nat) (hk : A.length + S.length + 20 < k) : impl_IsFree.f k n A S = some (freeb n A S) := by
  unfold impl_IsFree.f freeb
  have hl := hitG_len n A S
  rw [impl_IsSet_eq n A S hA hS k (by omega), Option.bind_some]
  by_cases h : isS n A S = true
  · rw [if_pos h, impl_HitBy_eq n A S hA hS k (by omega), Option.bind_some, show (0 : Int) = ((0 : Nat) : Int) from rfl, impl_IsFree_l S (hitG n A S) hS hl (hitG n A S).length k 0 (by omega) (by omega), List.drop_zero, all_swap, h, Bool.true_and]
  · rw [if_neg h]; simp [h]
theorem equ_l (a b : List Int) (hl : a.length ≤ 1048576) (hab : a.length = b.length) : ∀ (d k i : Nat), (∀ j, j < i → a[j]? = b[j]?) → i + d = a.length → d < k → slices_Equal_int_int.l0 k a b (a.length : Int) i = some (decide (a = b)) := by
  intro d
  induction d with
  | zero =>
    intro k i hp hd hk
    obtain ⟨k, rfl⟩ := rounds_succ hk
    simp only [slices_Equal_int_int.l0]; rw [if_neg (by omega)]
    have : a = b := by
      refine List.ext_getElem? fun j => ?_
      by_cases hj : j < i
      · exact hp j hj
      · rw [List.getElem?_eq_none (by omega), List.getElem?_eq_none (by omega)]
    simp [this]
  | succ d ih =>
    intro k i hp hd hk
    obtain ⟨k, rfl⟩ := rounds_succ hk
    simp only [slices_Equal_int_int.l0]; rw [if_pos (by omega), if_pos (by omega), if_pos (by omega), if_pos (by omega)]
    by_cases e : rd a i = rd b i
    · rw [if_pos e, wrs (by omega)]
      refine ih k (i + 1) ?_ (by omega) (by omega)
      intro j hj
      by_cases e' : j = i
      · subst e'; rw [rd_some a j (by omega), rd_some b j (by omega), e]
      · exact hp j (by omega)
    · rw [if_neg e]
      have : ¬ a = b := fun h => e (by rw [h])
      simp [this]
theorem equ_eq (a b : List Int) (hl : a.length ≤ 1048576) (k : Nat) (hk : a.length < k) : slices_Equal_int_int.f k a b = some (decide (a = b)) := by
  unfold slices_Equal_int_int.f
  by_cases h : a.length = b.length
  · rw [if_pos (by omega)]
    exact equ_l a b hl h a.length k 0 (fun j hj => by omega) (by omega) hk
  · rw [if_neg (by omega)]
    have : ¬ a = b := fun e => h (by rw [e])
    simp [this]
theorem impl_IsComplete_eq (n : Int) (A : List (List Int)) (S : List Int) (hA : A.length ≤ 1048576) (hS : S.length ≤ 1048576) (k : Nat) (hk : A.length + 2 * S.length + 120 < k) : impl_IsComplete.f k n A S = some (compb n A S) := by
  have hl := dbyG_len n A S
  unfold impl_IsComplete.f compb
  rw [impl_IsFree_eq n A S hA hS k (by omega), Option.bind_some, impl_DefendedBy_eq n A S hA hS k (by omega), Option.bind_some, equ_eq (dbyG n A S) S (by omega) k (by omega), Option.bind_some]
  cases freeb n A S <;> simp
theorem impl_AC_l1 (n : Int) (A : List (List Int)) (hn : 0 ≤ n ∧ n ≤ 10) (x3 : List (List Int)) (m M : Int) : ∀ (d i k : Nat) (S : List Int), i + d = n.toNat → S.length ≤ i →
    impl_AllComplete.l1 (k + d + 1) x3 m S M m n (i : Int) n A = (impl_IsComplete.f k n A (S ++ ((cl n).drop i).filter (bitP m))).bind fun t => (if t = true then (if x3.length < 5864062014805 then (impl_AllComplete.l0 k (x3 ++ [S ++ ((cl n).drop i).filter (bitP m)]) M (wrap64 (m + 1)) n A) else none) else (impl_AllComplete.l0 k x3 M (wrap64 (m + 1)) n A)) := by
  intro d
  induction d with
  | zero =>
    intro i k S hd hS
    rw [Nat.add_zero]
    simp only [impl_AllComplete.l1]; rw [if_neg (by omega), List.drop_eq_nil_of_le (by rw [cl_length]; omega), List.filter_nil, List.append_nil]
  | succ d ih =>
    intro i k S hd hS
    rw [show k + (d + 1) + 1 = (k + d + 1) + 1 by omega]
    rw [impl_AllComplete.l1, if_pos (by omega), if_pos (by omega), clx_at n i (by omega), wrs (by omega)]
    by_cases h : Go.bits .and .i64 (shr .i64 m (i : Int)) 1 = 1
    · rw [if_pos h, if_pos (by omega), ih (i + 1) k _ (by omega) (by rw [List.length_append, List.length_singleton]; omega), List.filter_cons_of_pos (by simp [bitP, h]), List.append_assoc]; rfl
    · rw [if_neg h, ih (i + 1) k _ (by omega) (by omega), List.filter_cons_of_neg (by simp [bitP, h])]
theorem impl_AC_l0 (n : Int) (A : List (List Int)) (hA : A.length ≤ 1048576) (hn : 0 ≤ n ∧ n ≤ 10) (M : Nat) (hM : M ≤ 1024) : ∀ (d k i : Nat) (x3 : List (List Int)), i + d = M → x3.length ≤ i → (∀ p ∈ x3, p.length ≤ 10) → 12 * d + A.length + 300 < k → impl_AllComplete.l0 k x3 (M : Int) (i : Int) n A = some (Go.Proofs.YtelkfhlnejlheaaW.Pick.sortL (x3 ++ restC n A M i)) := by
  intro d
  induction d with
  | zero =>
    intro k i x3 hd hx hp hk
    obtain ⟨k, rfl⟩ := rounds_succ hk
    obtain rfl : i = M := by omega
    rw [impl_AllComplete.l0, if_neg (by omega), restC_end, List.append_nil]
    unfold slices_SortFunc_L.f
    rw [if_pos ⟨by omega, fun p h => by have := hp p h; omega⟩, Option.bind_some]
  | succ d ih =>
    intro k i x3 hd hx hp hk
    obtain ⟨k, rfl⟩ := rounds_succ hk
    obtain ⟨k, rfl⟩ : ∃ j, k = j + n.toNat + 1 := ⟨k - n.toNat - 1, by omega⟩
    have h1 := impl_AC_l1 n A hn x3 (i : Int) (M : Int) n.toNat 0 k [] (by omega) (by simp)
    rw [List.drop_zero, List.nil_append, show ((0 : Nat) : Int) = 0 from rfl, show (cl n).filter (bitP (i : Int)) = setM n (i : Int) from rfl] at h1
    have hs := setM_len hn (i : Int)
    rw [impl_AllComplete.l0, if_pos (by omega), h1, impl_IsComplete_eq n A _ hA (by omega) k (by omega), Option.bind_some, wrs (by omega), restC_at n A M i (by omega)]
    by_cases h : compb n A (setM n (i : Int)) = true
    · rw [if_pos h, if_pos h, if_pos (by omega), ih k (i + 1) _ (by omega) (by rw [List.length_append, List.length_singleton]; omega) (fun p hq => by
        rcases List.mem_append.1 hq with hq | hq
        · exact hp p hq
        · rw [List.mem_singleton.1 hq]; exact hs) (by omega), List.append_assoc]; rfl
    · rw [if_neg h, if_neg h, ih k (i + 1) _ (by omega) (by omega) hp (by omega)]
theorem impl_AllComplete_eq (n : Int) (A : List (List Int)) (hA : A.length ≤ 1048576) (k : Nat) (hk : A.length + 20000 < k) : impl_AllComplete.f k n A = some (allC n A) := by
  unfold impl_AllComplete.f allC
  rw [Option.bind_some, impl_IsGraph_eq n A hA k (by omega), Option.bind_some]
  by_cases hg : isG n A = true
  · have hn := (isG_ok hg).1
    have hM := (pow_small n.toNat (by omega)).2
    have := impl_AC_l0 n A hA hn (2 ^ n.toNat) hM (2 ^ n.toNat) k 0 [] (by omega) (by simp) (by simp) (by omega)
    rw [if_pos hg, if_pos hg, if_pos hn.1, shl_n hn]
    simpa using this
  · rw [if_neg hg, if_neg hg]
theorem within_l (a b : List Int) (hb : b.length ≤ 1000) (ha : a.length ≤ 1000) : ∀ (d k i : Nat), i + d = a.length → d + 1100 < k → impl_isWithin.l0 k b a (a.length : Int) (i : Int) = some (part (a.drop i) b) := by
  intro d
  induction d with
  | zero =>
    intro k i hd hk
    obtain ⟨k, rfl⟩ := rounds_succ hk
    rw [impl_isWithin.l0, if_neg (by omega), List.drop_eq_nil_of_le (by omega)]; rfl
  | succ d ih =>
    intro k i hd hk
    obtain ⟨k, rfl⟩ := rounds_succ hk
    rw [impl_isWithin.l0, if_pos (by omega), if_pos (by omega), if_pos (by omega), contains_eq b _ (by omega) k (by omega), Option.bind_some, wrs (by omega), ih k (i + 1) (by omega) (by omega), List.drop_eq_getElem_cons (show i < a.length by omega), rd_nat a i (by omega)]
    unfold part
    rw [List.all_cons]
    by_cases h : a[i] ∈ b
    · rw [if_pos (by simp [h])]; simp [h]
    · rw [if_neg (by simp [h])]; simp [h]
theorem prefq_eq (a b : List Int) (ha : a.length ≤ 10) (hb : b.length ≤ 10) (k : Nat) (hk : 1200 < k) : impl_Preferred.q k a b = some (decide (a.length < b.length) && part a b) := by
  unfold impl_Preferred.q
  by_cases h : a.length < b.length
  · rw [if_pos h]
    unfold impl_isWithin.f
    rw [show (0 : Int) = ((0 : Nat) : Int) from rfl, within_l a b (by omega) (by omega) a.length k 0 (by omega) (by omega)]
    simp [h]
  · rw [if_neg h]; simp [h]
theorem pref_idx (k : Nat) (a : List Int) (ha : a.length ≤ 10) (hk : 1200 < k) : ∀ (s : List (List Int)) (i : Int), (∀ r ∈ s, r.length ≤ 10) → 0 ≤ i → ∃ t, slices_IndexFunc_L.idx (impl_Preferred.q k a) s i = some t ∧ (0 ≤ t ↔ (s.any fun b => decide (a.length < b.length) && part a b) = true) := by
  intro s
  induction s with
  | nil => intro i _ _; exact ⟨-1, rfl, by simp⟩
  | cons x s ih =>
    intro i hr h0
    have hx := hr x List.mem_cons_self
    rw [slices_IndexFunc_L.idx, prefq_eq a x ha hx k hk, Option.bind_some]
    by_cases h : (decide (a.length < x.length) && part a x) = true
    · rw [if_pos h]; exact ⟨i, rfl, by simp only [List.any_cons, h, Bool.true_or]; simp [h0]⟩
    · rw [if_neg h]
      obtain ⟨t, ht, e⟩ := ih (i + 1) (fun r hr' => hr r (List.mem_cons_of_mem _ hr')) (by omega)
      refine ⟨t, ht, ?_⟩
      rw [e, List.any_cons]
      simp only [Bool.not_eq_true] at h
      rw [h, Bool.false_or]
theorem impl_Pref_l (L : List (List Int)) (g : goodL L) : ∀ (d k i : Nat) (o : List (List Int)), i + d = L.length → o.length ≤ i → d + 1300 < k → impl_Preferred.l0 k o L (i : Int) = some (o ++ (L.drop i).filter (pI L)) := by
  intro d
  induction d with
  | zero =>
    intro k i o hd ho hk
    obtain ⟨k, rfl⟩ := rounds_succ hk
    rw [impl_Preferred.l0, if_neg (by omega), List.drop_eq_nil_of_le (by omega), List.filter_nil, List.append_nil]
  | succ d ih =>
    intro k i o hd ho hk
    obtain ⟨k, rfl⟩ := rounds_succ hk
    have hq := g.le _ (rdL_mem L i (by omega))
    have hln := g.ln
    obtain ⟨t, ht, e⟩ := pref_idx k (rd_L1 L (i : Int)) hq (by omega) L 0 g.le (by omega)
    rw [impl_Preferred.l0, if_pos (by omega), if_pos (by omega), ht, Option.bind_some, wrs (by omega), rdL_drop L i (by omega)]
    by_cases h : 0 ≤ t
    · have : pI L (rd_L1 L (i : Int)) = false := by unfold pI; rw [e.1 h]; rfl
      rw [if_pos h, ih k (i + 1) _ (by omega) (by omega) (by omega), List.filter_cons_of_neg (by simp [this])]
    · have : pI L (rd_L1 L (i : Int)) = true := by
        unfold pI
        cases hb : (L.any fun b => decide ((rd_L1 L (i : Int)).length < b.length) && part (rd_L1 L (i : Int)) b) with
        | false => rfl
        | true => exact absurd (e.2 hb) h
      rw [if_neg h, if_pos (by omega), ih k (i + 1) _ (by omega) (by rw [List.length_append, List.length_singleton]; omega) (by omega), List.filter_cons_of_pos this, List.append_assoc]; rfl
theorem impl_Preferred_eq (n : Int) (A : List (List Int)) (hA : A.length ≤ 1048576) (k : Nat) (hk : A.length + 20000 < k) : impl_Preferred.f k n A = some (pref n A) := by
  unfold impl_Preferred.f pref
  rw [impl_AllComplete_eq n A hA k hk, Option.bind_some]
  have := impl_Pref_l (allC n A) (allC_good n A) (allC n A).length k 0 [] (by omega) (by simp) (by have := allC_len n A; omega)
  simpa using this
theorem cred_idx (k : Nat) (c : Int) (hk : 1200 < k) : ∀ (s : List (List Int)) (i : Int), (∀ r ∈ s, r.length ≤ 10) → 0 ≤ i → ∃ t, slices_IndexFunc_L.idx (fun x => slices_Contains_int_int.f k x c) s i = some t ∧ (0 ≤ t ↔ (s.any fun x => decide (c ∈ x)) = true) := by
  intro s
  induction s with
  | nil => intro i _ _; exact ⟨-1, rfl, by simp⟩
  | cons x s ih =>
    intro i hr h0
    have hx := hr x List.mem_cons_self
    rw [slices_IndexFunc_L.idx, contains_eq x c (by omega) k (by omega), Option.bind_some]
    by_cases h : c ∈ x
    · rw [if_pos (by simp [h])]; exact ⟨i, rfl, by simp [h, h0]⟩
    · rw [if_neg (by simp [h])]
      obtain ⟨t, ht, e⟩ := ih (i + 1) (fun r hr' => hr r (List.mem_cons_of_mem _ hr')) (by omega)
      exact ⟨t, ht, by rw [e, List.any_cons]; simp [h]⟩
theorem impl_IsCredible_eq (n : Int) (A : List (List Int)) (c : Int) (hA : A.length ≤ 1048576) (k : Nat) (hk : A.length + 20000 < k) : impl_IsCredible.f k n A c = some (cred n A c) := by
  unfold impl_IsCredible.f cred
  rw [impl_Preferred_eq n A hA k hk, Option.bind_some]
  obtain ⟨t, ht, e⟩ := cred_idx k c (by omega) (pref n A) 0 (fun r h => pref_mem h) (by omega)
  rw [ht, Option.bind_some]
  congr 1
  rw [Bool.eq_iff_iff, decide_eq_true_eq]
  exact e
def FnExactIsCrediblePure : Prop := ∀ (a0_0 : Int) (l0_1 : List (List Int)) (a1 : Int), (Lit.int .i64 a0_0).wf = true → l0_1.length ≤ maxLen → (∀ r ∈ l0_1, r.length ≤ maxLen ∧ ∀ n ∈ r, (Lit.int .i64 n).wf = true) → (Lit.int .i64 a1).wf = true → ∃ k, laws_FnExactIsCredible.f k a0_0 l0_1 a1 = some true
theorem FnExactIsCredible : FnExactIsCrediblePure := by
  intro n A c _ hl hr _
  refine ⟨33554432, ?_⟩
  unfold laws_FnExactIsCredible.f
  obtain ⟨t, ht, hb⟩ := szG_eq n A hl (fun r h => (hr r h).1) 33554432 (by omega)
  rw [ht, Option.bind_some]
  by_cases h0 : t < 0
  · rw [if_pos h0]
  · rw [if_neg h0]
    obtain ⟨h1, h2⟩ := hb (by omega)
    have g1 := laws_toGraph_eq n A h1 h2 33554432 (by omega)
    have g2 := spec_IsCredible_eq n A c h1 33554432 (by omega)
    have g3 := impl_IsCredible_eq n A c h1 33554432 (by omega)
    have g5 : laws_eqGraph.f 33554432 n A n A = some true := by rw [laws_eqGraph_eq n n A A (by omega) h2 _ (by omega)]; simp
    simp only [g1, g2, g3, g5, Option.bind_some]
    simp
end Go.Proofs.Ytelkfhlnejlheaa.Pure
