/- The program's KeyedHash answers as the reference's does, for all keys and lists of integers, and leaves its argument alone. Conditions: none. -/
import Derived.Test.YthkohojbmpfhjaaPFnExactKeyedHashx1
import Derived.OpenShut
import Derived.Test.YthkohojbmpfhjaaWSized
namespace Go.Proofs.Ythkohojbmpfhjaa.Pure
open Go.RowKit Go.Proofs.Ythkohojbmpfhjaa.PFnExactKeyedHash Go.Proofs.YthkohojbmpfhjaaW.PrintWords Go.Proofs.YthkohojbmpfhjaaW.PrintLast
theorem wr {i : Int} (h0 : -9223372036854775808 ≤ i) (h : i ≤ 9223372036854775807) : wrap64 i = i := by unfold wrap64; omega
theorem wrs {i : Nat} (h : i < 9223372036854775807) : wrap64 ((i : Int) + 1) = ((i + 1 : Nat) : Int) := by unfold wrap64; omega
theorem rd_nat (l : List Int) (i : Nat) (h : i < l.length) : rd l (i : Int) = l[i] := by simp [rd, h]
theorem rd_some (l : List Int) (i : Nat) (h : i < l.length) : l[i]? = some (rd l (i : Int)) := by rw [rd_nat l i h, List.getElem?_eq_getElem h]
theorem rounds_succ {d k : Nat} (h : d < k) : ∃ m, k = m + 1 := ⟨k - 1, by omega⟩
theorem laws_toIntS_l (l : List Int) (hl : l.length ≤ 1048576) : ∀ (d k i : Nat) (xs : List Int), xs.length = l.length → (∀ j, j < i → xs[j]? = l[j]?) → i + d = l.length → d < k → laws_toIntS.l0 k l xs i = some l := by
  intro d
  induction d with
  | zero =>
    intro k i xs hx hp hd hk
    obtain ⟨k, rfl⟩ := rounds_succ hk
    simp only [laws_toIntS.l0]; rw [if_neg (by omega)]
    congr 1
    refine List.ext_getElem? fun j => ?_
    by_cases hj : j < i
    · exact hp j hj
    · rw [List.getElem?_eq_none (by omega), List.getElem?_eq_none (by omega)]
  | succ d ih =>
    intro k i xs hx hp hd hk
    obtain ⟨k, rfl⟩ := rounds_succ hk
    simp only [laws_toIntS.l0]; rw [if_pos (by omega), if_pos (by omega), if_pos (by omega), wrs (by omega), Int.toNat_natCast]
    refine ih k (i + 1) _ (by simp [hx]) ?_ (by omega) (by omega)
    intro j hj
    rw [List.getElem?_set]
    by_cases e : i = j
    · subst e; rw [if_pos rfl, if_pos (by omega), rd_some l i (by omega)]
    · rw [if_neg e]; exact hp j (by omega)
theorem laws_toIntS_eq (l : List Int) (hl : l.length ≤ 1048576) (k : Nat) (hk : l.length < k) : laws_toIntS.f k l = some l := by
  unfold laws_toIntS.f
  rw [if_pos (by omega), if_pos (by omega)]
  exact laws_toIntS_l l hl l.length k 0 _ (by simp) (fun j hj => by omega) (by omega) hk
theorem laws_eqIntS_l (a b : List Int) (hl : a.length ≤ 1048576) (hab : a.length = b.length) : ∀ (d k i : Nat), (∀ j, j < i → a[j]? = b[j]?) → i + d = a.length → d < k → laws_eqIntS.l0 k a b i = some (decide (a = b)) := by
  intro d
  induction d with
  | zero =>
    intro k i hp hd hk
    obtain ⟨k, rfl⟩ := rounds_succ hk
    simp only [laws_eqIntS.l0]; rw [if_neg (by omega)]
    have : a = b := by
      refine List.ext_getElem? fun j => ?_
      by_cases hj : j < i
      · exact hp j hj
      · rw [List.getElem?_eq_none (by omega), List.getElem?_eq_none (by omega)]
    simp [this]
  | succ d ih =>
    intro k i hp hd hk
    obtain ⟨k, rfl⟩ := rounds_succ hk
    simp only [laws_eqIntS.l0]; rw [if_pos (by omega), if_pos (by omega), if_pos (by omega)]
    by_cases e : rd a i = rd b i
    · rw [if_pos e, wrs (by omega)]
      refine ih k (i + 1) ?_ (by omega) (by omega)
      intro j hj
      by_cases e' : j = i
      · subst e'; rw [rd_some a j (by omega), rd_some b j (by omega), e]
      · exact hp j (by omega)
    · rw [if_neg e]
      have : ¬ a = b := fun h => e (by rw [h])
      simp [this]
theorem laws_eqIntS_eq (a b : List Int) (hl : a.length ≤ 1048576) (k : Nat) (hk : a.length < k) : laws_eqIntS.f k a b = some (decide (a = b)) := by
  unfold laws_eqIntS.f
  by_cases h : a.length = b.length
  · rw [if_pos (by omega)]
    exact laws_eqIntS_l a b hl h a.length k 0 (fun j hj => by omega) (by omega) hk
  · rw [if_neg (by omega)]
    have : ¬ a = b := fun e => h (by rw [e])
    simp [this]
theorem in_i64 {n : Int} (h : (Lit.int .i64 n).wf = true) : -9223372036854775808 ≤ n ∧ n ≤ 9223372036854775807 := bounds_i64 h
theorem in_u8 {n : Int} (h : (Lit.int .u8 n).wf = true) : 0 ≤ n ∧ n ≤ 255 := bounds_u8 h
theorem impl_InRange_eq (a b c : Int) : impl_InRange.f a b c = some (decide (b ≤ a ∧ a ≤ c)) := by
  unfold impl_InRange.f; by_cases h : b ≤ a <;> simp [h]
theorem spec_l1In_eq (a b c : Int) : spec_l1In.f a b c = some (decide (b ≤ a ∧ a ≤ c)) := by
  unfold spec_l1In.f; by_cases h : b ≤ a <;> simp [h]
theorem tmod_cases (a b : Int) (hb : 0 < b) : (0 ≤ a.tmod b ∧ a.tmod b = a % b) ∨ (a.tmod b < 0 ∧ a.tmod b + b = a % b) := by
  have h1 := Int.emod_nonneg a (show b ≠ 0 by omega)
  have h2 := Int.emod_lt_of_pos a hb
  rw [Int.tmod_eq_emod]
  split
  · left; omega
  · rename_i hn
    have : a % b ≠ 0 := fun e => hn (.inr (Int.dvd_of_emod_eq_zero e))
    right; omega
theorem tmod_nn (a b : Int) (ha : 0 ≤ a) : a.tmod b = a % b := by rw [Int.tmod_eq_emod, if_pos (.inl ha)]; omega
def pmod (a b : Int) : Int := if 1 ≤ b ∧ b ≤ 1000000000000 then a % b else 0
theorem impl_Mod_eq (a b : Int) : impl_Mod.f a b = some (pmod a b) := by
  unfold impl_Mod.f pmod
  rw [impl_InRange_eq]
  by_cases h : 1 ≤ b ∧ b ≤ 1000000000000
  · have h1 := Int.emod_nonneg a (show b ≠ 0 by omega)
    have h2 := Int.emod_lt_of_pos a (show 0 < b by omega)
    simp only [h, and_self, decide_true, Option.bind_some, if_true]
    rw [if_neg (by omega)]
    rcases tmod_cases a b (by omega) with ⟨h3, h4⟩ | ⟨h3, h4⟩
    · rw [if_neg (by omega), h4]
    · rw [if_pos h3, h4, wr (by omega) (by omega)]
  · simp [h]
theorem spec_Mod_eq (a b : Int) : spec_Mod.f a b = some (pmod a b) := by
  unfold spec_Mod.f pmod
  rw [spec_l1In_eq]
  by_cases h : 1 ≤ b ∧ b ≤ 1000000000000
  · have h1 := Int.emod_nonneg a (show b ≠ 0 by omega)
    have h2 := Int.emod_lt_of_pos a (show 0 < b by omega)
    simp only [h, and_self, decide_true, Option.bind_some, if_true]
    rw [if_neg (by omega)]
    rcases tmod_cases a b (by omega) with ⟨h3, h4⟩ | ⟨h3, h4⟩
    · rw [h4, wr (by omega) (by omega), tmod_nn _ _ (by omega), Int.add_emod_right, Int.emod_emod_of_dvd _ (Int.dvd_refl b)]
    · rw [h4, wr (by omega) (by omega), tmod_nn _ _ (by omega), Int.emod_emod_of_dvd _ (Int.dvd_refl b)]
  · simp [h]
def hst (a v : Int) : Int := (a * 1000003 + v % 2147483647 + 13) % 2147483647
theorem hst_in (a v : Int) : 0 ≤ hst a v ∧ hst a v < 2147483647 := by unfold hst; omega
theorem pmod_M (v : Int) : pmod v 2147483647 = v % 2147483647 := by unfold pmod; rw [if_pos (by omega)]
theorem hst_body (a v : Int) (h0 : 0 ≤ a) (h1 : a < 2147483647) : Int.tmod (wrap64 ((wrap64 ((wrap64 (a * 1000003)) + v % 2147483647)) + 13)) 2147483647 = hst a v := by
  unfold hst
  rw [wr (i := a * 1000003) (by omega) (by omega), wr (i := a * 1000003 + _) (by omega) (by omega), wr (by omega) (by omega), tmod_nn _ _ (by omega)]
theorem drop_rd (l : List Int) (i : Nat) (h : i < l.length) : l.drop i = rd l i :: l.drop (i + 1) := by rw [rd_nat l i h]; exact List.drop_eq_getElem_cons h
theorem hfold_in (l : List Int) : ∀ a, 0 ≤ a → a < 2147483647 → 0 ≤ l.foldl hst a ∧ l.foldl hst a < 2147483647 := by
  induction l with
  | nil => exact fun a h h' => ⟨h, h'⟩
  | cons x l ih => exact fun a _ _ => ih _ (hst_in a x).1 (hst_in a x).2
theorem spec_Hash_l (l : List Int) (hl : l.length ≤ 140737488351232) : ∀ (d k i : Nat) (a : Int), 0 ≤ a → a < 2147483647 → i + d = l.length → d < k → spec_Hash.l0 k l a i = some ((l.drop i).foldl hst a) := by
  intro d
  induction d with
  | zero =>
    intro k i a h0 h1 hd hk
    obtain ⟨k, rfl⟩ := rounds_succ hk
    simp only [spec_Hash.l0]; rw [if_neg (by omega), List.drop_eq_nil_of_le (by omega)]; rfl
  | succ d ih =>
    intro k i a h0 h1 hd hk
    obtain ⟨k, rfl⟩ := rounds_succ hk
    simp only [spec_Hash.l0]; rw [if_pos (by omega), if_pos (by omega), spec_Mod_eq, pmod_M, Option.bind_some, hst_body a _ h0 h1, wrs (by omega), drop_rd l i (by omega)]
    exact ih k (i + 1) _ (hst_in _ _).1 (hst_in _ _).2 (by omega) (by omega)
theorem spec_Hash_eq (l : List Int) (hl : l.length ≤ 140737488351232) (k : Nat) (hk : l.length < k) : spec_Hash.f k l = some (l.foldl hst 11) := by
  have := spec_Hash_l l hl l.length k 0 11 (by omega) (by omega) (by omega) hk
  simpa [spec_Hash.f] using this
def khash (key : Int) (l : List Int) : Int := hst (l.foldl hst (hst 11 key)) key
theorem khash_in (key : Int) (l : List Int) : 0 ≤ khash key l ∧ khash key l < 2147483647 := hst_in _ _
theorem spec_KeyedHash_eq (key : Int) (l : List Int) (hl : l.length ≤ 17592186044400) (k : Nat) (hk : l.length + 2 < k) : spec_KeyedHash.f k key l = some (khash key l) := by
  unfold spec_KeyedHash.f
  simp only [Option.bind_some]
  rw [if_pos (by simp; omega), if_pos (by simp; omega), spec_Hash_eq _ (by simp; omega) k (by simp; omega)]
  simp [khash]
theorem impl_fold_eq (a v : Int) (h0 : 0 ≤ a) (h1 : a < 2147483647) : impl_fold.f a v = some (hst a v) := by
  unfold impl_fold.f
  rw [impl_Mod_eq, pmod_M, Option.bind_some, hst_body a v h0 h1]
theorem impl_KeyedHash_l (key : Int) (l : List Int) (hl : l.length ≤ 140737488351232) : ∀ (d k i : Nat) (a : Int), 0 ≤ a → a < 2147483647 → i + d = l.length → d < k → impl_KeyedHash.l0 k key a l (l.length : Int) i = some (hst ((l.drop i).foldl hst a) key) := by
  intro d
  induction d with
  | zero =>
    intro k i a h0 h1 hd hk
    obtain ⟨k, rfl⟩ := rounds_succ hk
    simp only [impl_KeyedHash.l0]; rw [if_neg (by omega), List.drop_eq_nil_of_le (by omega), impl_fold_eq a _ h0 h1]; rfl
  | succ d ih =>
    intro k i a h0 h1 hd hk
    obtain ⟨k, rfl⟩ := rounds_succ hk
    simp only [impl_KeyedHash.l0]; rw [if_pos (by omega), if_pos (by omega), if_pos (by omega), impl_fold_eq a _ h0 h1, Option.bind_some, wrs (by omega), drop_rd l i (by omega)]
    exact ih k (i + 1) _ (hst_in _ _).1 (hst_in _ _).2 (by omega) (by omega)
theorem impl_KeyedHash_eq (key : Int) (l : List Int) (hl : l.length ≤ 140737488351232) (k : Nat) (hk : l.length < k) : impl_KeyedHash.f k key l = some (khash key l) := by
  have := impl_KeyedHash_l key l hl l.length k 0 (hst 11 key) (hst_in _ _).1 (hst_in _ _).2 (by omega) hk
  unfold impl_KeyedHash.f
  rw [impl_fold_eq 11 key (by omega) (by omega), Option.bind_some]
  simpa [khash] using this
theorem FnExactKeyedHash : laws_FnExactKeyedHash.Pure := by
  intro key a _ _ _ _
  obtain ⟨K, hK⟩ : ∃ K, K = a.length + 5 := ⟨_, rfl⟩
  refine ⟨K, ?_⟩
  unfold laws_FnExactKeyedHash.f
  by_cases ha : a.length ≤ 1048576
  · rw [if_neg (by omega)]
    have h1 := laws_toIntS_eq a ha K (by omega)
    have h5 := laws_eqIntS_eq a a ha K (by omega)
    have h6 := spec_KeyedHash_eq key a (by omega) K (by omega)
    have h7 := impl_KeyedHash_eq key a (by omega) K (by omega)
    simp only [h1, h5, h6, h7, Option.bind_some]
    simp
  · rw [if_pos (by omega)]
end Go.Proofs.Ythkohojbmpfhjaa.Pure
/-- The row names this lemma from inside this namespace. -/
theorem Go.Proofs.Ythkohojbmpfhjaa.PrintWords.sized_ints {H : Type} {enc : Go.TypeId × Go.Value → H} {P : Go.Program} {W : Go.World} {base : Nat} {spare : Nat → Bool} {held : Bool} {t e : Go.TypeId} {k : Go.IntKind} {a : Option Go.Addr} {len cap : Nat} {d : Go.DataW H} {ps : List Go.MemPlace} {ts : List Go.TypeId} {ds : List (Go.DataW H)} {j : Nat}
    (hsz : (Go.DataW.weightsEach P ts ds).all (· ≤ Go.reachBytes) = true) (ht : ts[j]? = some t) (hd : ds[j]? = some d) (hu : P.underlying t = some (.slice e)) (he : P.underlying e = some (.int k)) (hc : P.cellsOf e = 1) {B : Nat} (hB : P.bytesOf e = B)
    (h : Go.DataW.Trod enc P W base spare held t (.slice a len cap) d ps) : len * B ≤ 140737488351232 :=
  Go.Proofs.YthkohojbmpfhjaaW.PrintWords.sized_ints hsz ht hd hu he hc hB h
