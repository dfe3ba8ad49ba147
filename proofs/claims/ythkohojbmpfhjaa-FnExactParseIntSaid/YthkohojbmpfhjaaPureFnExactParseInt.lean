/- The program's ParseInt answers as the reference's does, for all strings. Conditions: none. -/
import Derived.Test.YthkohojbmpfhjaaPFnExactParseIntx1
import Derived.OpenShut
namespace Go.Proofs.Ythkohojbmpfhjaa.Pure
open Go.RowKit Go.Proofs.Ythkohojbmpfhjaa.PFnExactParseInt Go.Proofs.YthkohojbmpfhjaaW.PrintWords Go.Proofs.YthkohojbmpfhjaaW.PrintLast
theorem wr {i : Int} (h0 : -9223372036854775808 ≤ i) (h : i ≤ 9223372036854775807) : wrap64 i = i := by unfold wrap64; omega
theorem wrs {i : Nat} (h : i < 9223372036854775807) : wrap64 ((i : Int) + 1) = ((i + 1 : Nat) : Int) := by unfold wrap64; omega
theorem rd_nat (l : List Int) (i : Nat) (h : i < l.length) : rd l (i : Int) = l[i] := by simp [rd, h]
theorem rd_some (l : List Int) (i : Nat) (h : i < l.length) : l[i]? = some (rd l (i : Int)) := by rw [rd_nat l i h, List.getElem?_eq_getElem h]
theorem rounds_succ {d k : Nat} (h : d < k) : ∃ m, k = m + 1 := ⟨k - 1, by omega⟩
def fmt (n : Nat) : List Int := if _h : n = 0 then [] else fmt (n / 10) ++ [48 + ((n % 10 : Nat) : Int)]
termination_by n
decreasing_by omega
theorem fmt_zero : fmt 0 = [] := by rw [fmt]; simp
theorem fmt_pos (n : Nat) (h : 0 < n) : fmt n = fmt (n / 10) ++ [48 + ((n % 10 : Nat) : Int)] := by rw [fmt]; simp; omega
theorem fmt_snoc (a d : Nat) (hd : d < 10) (h : 0 < 10 * a + d) : fmt (10 * a + d) = fmt a ++ [48 + (d : Int)] := by
  rw [fmt_pos _ h, show (10 * a + d) / 10 = a by omega, show (10 * a + d) % 10 = d by omega]
theorem fmt_head (n : Nat) : 0 < n → ∃ c t, fmt n = c :: t ∧ 49 ≤ c ∧ c ≤ 57 := by
  induction n using Nat.strongRecOn with
  | ind n ih =>
    intro h
    rw [fmt_pos n h]
    by_cases h10 : n < 10
    · rw [show n / 10 = 0 by omega, fmt_zero]
      exact ⟨_, _, rfl, by omega, by omega⟩
    · obtain ⟨c, t, e, h1, h2⟩ := ih (n / 10) (by omega) (by omega)
      rw [e]
      exact ⟨c, _, rfl, h1, h2⟩
theorem fmt_length (d : Nat) : ∀ n, n < 10 ^ d → (fmt n).length ≤ d := by
  induction d with
  | zero => intro n h; have : n = 0 := by simpa using h
            subst this; simp [fmt_zero]
  | succ d ih =>
    intro n h
    by_cases h0 : n = 0
    · subst h0; simp [fmt_zero]
    · rw [fmt_pos n (by omega), List.length_append]
      have := ih (n / 10) (by rw [Nat.pow_succ] at h; omega)
      simpa using this
theorem tmod_natAbs (x : Int) : (x.tmod 10 < 0 ∧ -(x.tmod 10) = ((x.natAbs % 10 : Nat) : Int)) ∨ (0 ≤ x.tmod 10 ∧ x.tmod 10 = ((x.natAbs % 10 : Nat) : Int)) := by
  rw [Int.tmod_eq_emod]
  split <;> omega
theorem tdiv_natAbs (x : Int) : (x.tdiv 10).natAbs = x.natAbs / 10 := by
  rw [Int.natAbs_tdiv]; rfl
theorem bytesOf_app (a b : ByteArray) : bytesOf (a ++ b) = bytesOf a ++ bytesOf b := by simp [bytesOf, ByteArray.data_append]
theorem bytesOf_one (x : Int) (h0 : 0 ≤ x) (h1 : x < 256) : bytesOf (strOfNums [x]) = [x] := by
  simp [bytesOf, strOfNums]; omega
theorem size_one (x : Int) : (strOfNums [x]).size = 1 := rfl
theorem bytesOf_inj {a b : ByteArray} (h : bytesOf a = bytesOf b) : a = b := by
  apply ByteArray.ext
  apply Array.toList_inj.1
  unfold bytesOf at h
  have := (List.map_inj_right (f := fun b : UInt8 => (b.toNat : Int)) (fun x y e => by
    have : x.toNat = y.toNat := by exact_mod_cast e
    exact UInt8.toNat_inj.1 this)).1 h
  exact this
theorem spec_FormatInt_l (x0 : Int) (d : Nat) : ∀ (x : Int) (k : Nat) (acc : ByteArray), x.natAbs < 10 ^ d → -9223372036854775808 ≤ x → x ≤ 9223372036854775807 → acc.size + d ≤ 1000 → d < k →
    ∃ r, spec_FormatInt.l0 k x0 acc x = some r ∧ bytesOf r = (if x0 < 0 then [45] else []) ++ (fmt x.natAbs ++ bytesOf acc) := by
  induction d with
  | zero =>
    intro x k acc hx hl hu ha hk
    obtain ⟨k, rfl⟩ := rounds_succ hk
    have : x = 0 := by have : x.natAbs = 0 := by simpa using hx
                       omega
    simp only [spec_FormatInt.l0]; rw [if_pos this]
    by_cases h : x0 < 0
    · rw [if_pos h, if_pos (by omega), if_pos h]
      exact ⟨_, rfl, by rw [bytesOf_app]; simp [fmt_zero, bytesOf, this]⟩
    · rw [if_neg h, if_neg h]
      exact ⟨_, rfl, by simp [fmt_zero, this]⟩
  | succ d ih =>
    intro x k acc hx hl hu ha hk
    obtain ⟨k, rfl⟩ := rounds_succ hk
    by_cases h0 : x = 0
    · simp only [spec_FormatInt.l0]; rw [if_pos h0]
      by_cases h : x0 < 0
      · rw [if_pos h, if_pos (by omega), if_pos h]
        exact ⟨_, rfl, by rw [bytesOf_app]; simp [fmt_zero, bytesOf, h0]⟩
      · rw [if_neg h, if_neg h]
        exact ⟨_, rfl, by simp [fmt_zero, h0]⟩
    · have hdv := tdiv_natAbs x
      have hm : x.natAbs % 10 < 10 := Nat.mod_lt _ (by omega)
      have key : ∀ y : Int, y = 48 + ((x.natAbs % 10 : Nat) : Int) → ∃ r, spec_FormatInt.l0 k x0 (strOfNums [y] ++ acc) (wrap64 (x.tdiv 10)) = some r ∧ bytesOf r = (if x0 < 0 then [45] else []) ++ (fmt x.natAbs ++ bytesOf acc) := by
        intro y hy
        have hw : wrap64 (x.tdiv 10) = x.tdiv 10 := wr (by omega) (by omega)
        rw [hw]
        obtain ⟨r, h1, h2⟩ := ih (x.tdiv 10) k (strOfNums [y] ++ acc) (by rw [hdv]; rw [Nat.pow_succ] at hx; omega) (by omega) (by omega) (by rw [ByteArray.size_append, size_one]; omega) (by omega)
        refine ⟨r, h1, ?_⟩
        rw [h2, hdv, bytesOf_app, bytesOf_one y (by omega) (by omega), fmt_pos x.natAbs (by omega), hy]
        simp
      simp only [spec_FormatInt.l0]; rw [if_neg h0]
      rcases tmod_natAbs x with ⟨h1, h2⟩ | ⟨h1, h2⟩
      · rw [if_pos h1, Option.bind_some, if_pos (by rw [size_one]; omega)]
        apply key
        rw [h2, wr (i := ((x.natAbs % 10 : Nat) : Int)) (by omega) (by omega), wr (by omega) (by omega)]; omega
      · rw [if_neg (by omega), Option.bind_some, if_pos (by rw [size_one]; omega)]
        apply key
        rw [h2, wr (by omega) (by omega)]; omega
def fmt0 (x : Int) : List Int := (if x < 0 then [45] else []) ++ (if x = 0 then [48] else fmt x.natAbs)
theorem spec_FormatInt_eq (x : Int) (hl : -9223372036854775808 ≤ x) (hu : x ≤ 9223372036854775807) (k : Nat) (hk : 19 < k) : ∃ r, spec_FormatInt.f k x = some r ∧ bytesOf r = fmt0 x := by
  unfold spec_FormatInt.f fmt0
  by_cases h : x = 0
  · subst h
    rw [if_pos rfl]
    exact ⟨_, rfl, by simp [bytesOf]⟩
  · rw [if_neg h]
    obtain ⟨r, h1, h2⟩ := spec_FormatInt_l x 19 x k (⟨#[]⟩ : ByteArray) (by omega) hl hu (by simp [ByteArray.size]) hk
    exact ⟨r, h1, by rw [h2, if_neg h]; simp [bytesOf]⟩
theorem spec_l1In_eq (a b c : Int) : spec_l1In.f a b c = some (decide (b ≤ a ∧ a ≤ c)) := by
  unfold spec_l1In.f; by_cases h : b ≤ a <;> simp [h]
def pl (a : Nat) : List Int → Option Nat
  | [] => some a
  | c :: t => if 48 ≤ c ∧ c ≤ 57 then pl (10 * a + (c - 48).toNat) t else none
theorem pl_fmt (R : List Int) : ∀ a n, 0 < a → pl a R = some n → 0 < n ∧ fmt n = fmt a ++ R := by
  induction R with
  | nil => intro a n h e; simp [pl] at e; subst e; simp [h]
  | cons c t ih =>
    intro a n h e
    simp only [pl] at e
    split at e
    · rename_i hc
      obtain ⟨h1, h2⟩ := ih _ n (by omega) e
      refine ⟨h1, ?_⟩
      rw [h2, fmt_snoc _ _ (by omega) (by omega)]
      simp; omega
    · cases e
theorem pl_lt (R : List Int) : ∀ a n i, a < 10 ^ i → pl a R = some n → n < 10 ^ (i + R.length) := by
  induction R with
  | nil => intro a n i h e; simp [pl] at e; subst e; simpa using h
  | cons c t ih =>
    intro a n i h e
    simp only [pl] at e
    split at e
    · have := ih _ n (i + 1) (by rw [Nat.pow_succ]; omega) e
      rw [List.length_cons, show i + (t.length + 1) = i + 1 + t.length by omega]; exact this
    · cases e
theorem pl_canon (c : Int) (R : List Int) (n : Nat) (e : pl 0 (c :: R) = some n) : fmt0 (n : Int) = c :: R ↔ (R = [] ∨ c ≠ 48) := by
  simp only [pl] at e
  split at e
  · rename_i hc
    by_cases h48 : c = 48
    · subst h48
      cases R with
      | nil => simp [pl] at e; subst e; simp [fmt0]
      | cons b t =>
        have hn : fmt0 (n : Int) ≠ 48 :: b :: t := by
          intro hh
          unfold fmt0 at hh
          rw [if_neg (by omega)] at hh
          by_cases h0 : n = 0
          · subst h0; simp at hh
          · rw [if_neg (by omega)] at hh
            obtain ⟨c', t', e1, e2, _⟩ := fmt_head n (by omega)
            simp [e1] at hh
            omega
        simp [hn]
    · obtain ⟨h1, h2⟩ := pl_fmt R _ n (by omega) e
      have : fmt0 (n : Int) = c :: R := by
        unfold fmt0
        rw [if_neg (by omega), if_neg (by omega), Int.natAbs_natCast, h2]
        have := fmt_snoc 0 (c - 48).toNat (by omega) (by omega)
        rw [this, fmt_zero]
        simp; omega
      simp [this, h48]
  · cases e
theorem bt_drop (s : ByteArray) (i : Nat) (h : i < s.size) : (bytesOf s).drop i = bt s i :: (bytesOf s).drop (i + 1) := by
  rw [← rd_bytesOf, rd_nat _ _ (by rw [bytesOf_length]; exact h)]
  exact List.drop_eq_getElem_cons _
theorem dropped_nil (s : ByteArray) (i : Nat) (h : (bytesOf s).drop i = []) : s.size ≤ i := by
  have := congrArg List.length h
  simp [bytesOf_length] at this; omega
theorem dropped_cons (s : ByteArray) (i : Nat) (c : Int) (t : List Int) (h : (bytesOf s).drop i = c :: t) : i < s.size ∧ bt s i = c ∧ (bytesOf s).drop (i + 1) = t := by
  have hl := congrArg List.length h
  simp [bytesOf_length] at hl
  have hi : i < s.size := by omega
  rw [bt_drop s i hi] at h
  exact ⟨hi, by injection h, by injection h⟩
theorem pow13 (i : Nat) (h : i ≤ 13) : 10 ^ i ≤ 10000000000000 := by
  have := Nat.pow_le_pow_right (show 10 > 0 by omega) h
  exact this
def ifin (n : Option Nat) : Int × Bool := match n with | none => (0, false) | some n => if n ≤ 1000000000000 then ((n : Int), true) else (0, false)
theorem impl_ParseInt_l (s : ByteArray) (hs : s.size ≤ 13) : ∀ (R : List Int) (k i a : Nat), (bytesOf s).drop i = R → a < 10 ^ i → i ≤ s.size → R.length < k → impl_ParseInt.l0 k s a (s.size : Int) i = some (ifin (pl a R)) := by
  intro R
  induction R with
  | nil =>
    intro k i a hR ha hi hk
    obtain ⟨k, rfl⟩ := rounds_succ hk
    have := dropped_nil s i hR
    simp only [impl_ParseInt.l0]; rw [if_neg (by omega)]
    simp only [pl, ifin]
    split
    · rw [if_neg (by omega)]
    · rw [if_pos (by omega)]
  | cons c t ih =>
    intro k i a hR ha hi hk
    obtain ⟨k, rfl⟩ := rounds_succ hk
    obtain ⟨h1, h2, h3⟩ := dropped_cons s i c t hR
    have hb := bt_range s i
    have hp := pow13 i (by omega)
    simp only [impl_ParseInt.l0]; rw [if_pos (by omega), if_pos (by omega), if_pos (by omega), h2]
    rw [h2] at hb
    simp only [pl]
    by_cases hc : 48 ≤ c ∧ c ≤ 57
    · rw [if_neg (by omega), if_neg (by omega), if_pos hc]
      rw [wr (i := 10 * (a : Int)) (by omega) (by omega), wr (i := 10 * (a : Int) + _) (by omega) (by omega), wrs (by omega)]
      have := ih k (i + 1) (10 * a + (c - 48).toNat) h3 (by rw [Nat.pow_succ]; omega) (by omega) (by simp at hk; omega)
      rw [← this]; congr 1; omega
    · rw [if_neg hc]
      by_cases h4 : c < 48
      · rw [if_pos h4]; rfl
      · rw [if_neg h4, if_pos (by omega)]; rfl
def PI (L : List Int) : Int × Bool := if L = [] ∨ 13 < L.length ∨ (1 < L.length ∧ L.head? = some 48) then (0, false) else ifin (pl 0 L)
theorem impl_ParseInt_eq (s : ByteArray) (k : Nat) (hk : 20 < k) : impl_ParseInt.f k s = some (PI (bytesOf s)) := by
  obtain ⟨k, rfl⟩ := rounds_succ hk
  have hlen := bytesOf_length s
  unfold impl_ParseInt.f PI
  by_cases h0 : s.size = 0
  · have : bytesOf s = [] := List.length_eq_zero_iff.1 (by omega)
    rw [if_pos (by omega), if_pos (.inl this)]; simp [impl_ParseInt.j0]
  · rw [if_neg (by omega)]
    have hne : bytesOf s ≠ [] := fun e => h0 (by rw [← hlen, e]; rfl)
    by_cases h13 : s.size > 13
    · rw [if_pos (by omega), if_pos (by rw [hlen]; omega)]; simp [impl_ParseInt.j0]
    · rw [if_neg (by omega)]
      have hd := bt_drop s 0 (by omega)
      have hz : bt s ((0 : Nat) : Int) = bt s 0 := rfl
      rw [List.drop_zero, hz] at hd
      have hh : (bytesOf s).head? = some (bt s 0) := by rw [hd]; rfl
      have main : impl_ParseInt.l0 k s 0 (s.size : Int) 0 = some (ifin (pl 0 (bytesOf s))) := impl_ParseInt_l s (by omega) (bytesOf s) k 0 0 rfl (by simp) (by omega) (by omega)
      by_cases h1 : s.size > 1
      · rw [if_pos (by omega), if_pos (by omega)]
        simp only [impl_ParseInt.j0]
        by_cases h48 : bt s 0 = 48
        · rw [if_pos (by simp [h48]), if_pos (.inr (.inr ⟨by omega, by rw [hh, h48]⟩))]
        · rw [if_neg (by simp [h48]), if_neg (by rw [hh]; simp [h48, hne]; omega)]
          exact main
      · rw [if_neg (by omega)]
        simp only [impl_ParseInt.j0]
        rw [if_neg (by simp), if_neg (by simp [hne]; omega)]
        exact main
def sfin (L : List Int) (n : Option Nat) : Int × Bool := match n with | none => (0, false) | some n => if n ≤ 1000000000000 ∧ fmt0 (n : Int) = L then ((n : Int), true) else (0, false)
theorem spec_ParseInt_l (s : ByteArray) (hs : s.size ≤ 13) : ∀ (R : List Int) (k i a : Nat), (bytesOf s).drop i = R → a < 10 ^ i → i ≤ s.size → R.length + 20 < k → spec_ParseInt.l0 k s a i = some (sfin (bytesOf s) (pl a R)) := by
  intro R
  induction R with
  | nil =>
    intro k i a hR ha hi hk
    obtain ⟨k, rfl⟩ := rounds_succ hk
    have := dropped_nil s i hR
    have hp := pow13 i (by omega)
    simp only [spec_ParseInt.l0]; rw [if_neg (by omega)]
    simp only [pl, sfin]
    by_cases hm : a ≤ 1000000000000
    · rw [if_neg (by omega)]
      obtain ⟨r, h1, h2⟩ := spec_FormatInt_eq a (by omega) (by omega) k (by simp at hk; omega)
      rw [h1, Option.bind_some, ← h2]
      by_cases e : r = s
      · subst e; simp [hm]
      · have h3 : ¬ bytesOf r = bytesOf s := fun h => e (bytesOf_inj h)
        have h4 : ¬ r.toList = s.toList := by
          intro h; rw [ByteArray.toList_eq, ByteArray.toList_eq] at h
          exact h3 (by unfold bytesOf; rw [h])
        simp [h3, h4]
    · rw [if_pos (by omega), if_neg (by omega)]
  | cons c t ih =>
    intro k i a hR ha hi hk
    obtain ⟨k, rfl⟩ := rounds_succ hk
    obtain ⟨h1, h2, h3⟩ := dropped_cons s i c t hR
    have hb := bt_range s i
    have hp := pow13 i (by omega)
    simp only [spec_ParseInt.l0]; rw [if_pos (by omega), if_pos (by omega), h2]
    rw [h2] at hb
    rw [wr (i := c) (by omega) (by omega), spec_l1In_eq, Option.bind_some]
    simp only [pl]
    by_cases hc : 48 ≤ c ∧ c ≤ 57
    · rw [if_pos (by simp [hc]), if_pos hc]
      rw [wr (i := 10 * (a : Int)) (by omega) (by omega), wr (i := 10 * (a : Int) + _) (by omega) (by omega), wrs (by omega)]
      have := ih k (i + 1) (10 * a + (c - 48).toNat) h3 (by rw [Nat.pow_succ]; omega) (by omega) (by simp at hk; omega)
      rw [← this]; congr 1; omega
    · rw [if_neg hc, if_neg (by simp; omega)]; rfl
theorem spec_ParseInt_eq (s : ByteArray) (k : Nat) (hk : 40 < k) : spec_ParseInt.f k s = some (PI (bytesOf s)) := by
  have hlen := bytesOf_length s
  unfold spec_ParseInt.f PI
  rw [spec_l1In_eq, Option.bind_some]
  by_cases h0 : s.size = 0
  · have : bytesOf s = [] := List.length_eq_zero_iff.1 (by omega)
    rw [if_neg (by simp; omega), if_pos (.inl this)]
  · by_cases h13 : s.size > 13
    · rw [if_neg (by simp; omega), if_pos (by rw [hlen]; omega)]
    · rw [if_pos (by simp; omega)]
      have main : spec_ParseInt.l0 k s 0 0 = some (sfin (bytesOf s) (pl 0 (bytesOf s))) := spec_ParseInt_l s (by omega) (bytesOf s) k 0 0 rfl (by simp) (by omega) (by omega)
      rw [main]; congr 1
      cases hL : bytesOf s with
      | nil => rw [hL] at hlen; simp at hlen; omega
      | cons c t =>
        rw [hL] at hlen
        cases hp : pl 0 (c :: t) with
        | none => simp [sfin, ifin]
        | some n =>
          have := pl_canon c t n hp
          simp only [sfin, ifin, this]
          by_cases ht : t = []
          · subst ht; simp
          · have ht' : 1 < (c :: t).length := by cases t with
              | nil => exact absurd rfl ht
              | cons _ _ => simp
            by_cases hc : c = 48
            · rw [if_neg (by simp [ht, hc]), if_pos (.inr (.inr ⟨ht', by simp [hc]⟩))]
            · rw [if_neg (c := c :: t = [] ∨ _) (by simp [hc]; simp at hlen; omega)]
              simp [hc]
theorem FnExactParseInt : laws_FnExactParseInt.Pure := by
  intro s _
  refine ⟨100, ?_⟩
  unfold laws_FnExactParseInt.f
  rw [spec_ParseInt_eq s 100 (by omega), impl_ParseInt_eq s 100 (by omega)]
  split <;> simp
end Go.Proofs.Ythkohojbmpfhjaa.Pure
