/- The program's Encrypt answers as the reference's does, for all keys and byte strings, leaves its argument alone and hands back memory of its own. Conditions: none. -/
import Derived.Test.YtomnploadmbagaaGFnExactEncryptx3
import Derived.OpenShut
namespace Go.Proofs.Ytomnploadmbagaa.Pure
open Go.RowKit Go.Proofs.Ytomnploadmbagaa.GFnExactEncrypt Go.Proofs.YtomnploadmbagaaW.PrintWords Go.Proofs.YtomnploadmbagaaW.PrintLast
theorem wr {i : Int} (h0 : -9223372036854775808 ≤ i) (h : i ≤ 9223372036854775807) : wrap64 i = i := by unfold wrap64; omega
theorem wrs {i : Nat} (h : i < 9223372036854775807) : wrap64 ((i : Int) + 1) = ((i + 1 : Nat) : Int) := by unfold wrap64; omega
theorem rd_nat (l : List Int) (i : Nat) (h : i < l.length) : rd l (i : Int) = l[i] := by simp [rd, h]
theorem rd_some (l : List Int) (i : Nat) (h : i < l.length) : l[i]? = some (rd l (i : Int)) := by rw [rd_nat l i h, List.getElem?_eq_getElem h]
theorem rounds_succ {d k : Nat} (h : d < k) : ∃ m, k = m + 1 := ⟨k - 1, by omega⟩
theorem laws_toByteS_l (l : List Int) (hl : l.length ≤ 1048576) : ∀ (d k i : Nat) (xs : List Int), xs.length = l.length → (∀ j, j < i → xs[j]? = l[j]?) → i + d = l.length → d < k → laws_toByteS.l0 k l xs i = some l := by
  intro d
  induction d with
  | zero =>
    intro k i xs hx hp hd hk
    obtain ⟨k, rfl⟩ := rounds_succ hk
    simp only [laws_toByteS.l0]; rw [if_neg (by omega)]
    congr 1
    refine List.ext_getElem? fun j => ?_
    by_cases hj : j < i
    · exact hp j hj
    · rw [List.getElem?_eq_none (by omega), List.getElem?_eq_none (by omega)]
  | succ d ih =>
    intro k i xs hx hp hd hk
    obtain ⟨k, rfl⟩ := rounds_succ hk
    simp only [laws_toByteS.l0]; rw [if_pos (by omega), if_pos (by omega), if_pos (by omega), wrs (by omega), Int.toNat_natCast]
    refine ih k (i + 1) _ (by simp [hx]) ?_ (by omega) (by omega)
    intro j hj
    rw [List.getElem?_set]
    by_cases e : i = j
    · subst e; rw [if_pos rfl, if_pos (by omega), rd_some l i (by omega)]
    · rw [if_neg e]; exact hp j (by omega)
theorem laws_toByteS_eq (l : List Int) (hl : l.length ≤ 1048576) (k : Nat) (hk : l.length < k) : laws_toByteS.f k l = some l := by
  unfold laws_toByteS.f
  rw [if_pos (by omega), if_pos (by omega)]
  exact laws_toByteS_l l hl l.length k 0 _ (by simp) (fun j hj => by omega) (by omega) hk
theorem laws_eqByteS_l (a b : List Int) (hl : a.length ≤ 1099511627776) (hab : a.length = b.length) : ∀ (d k i : Nat), (∀ j, j < i → a[j]? = b[j]?) → i + d = a.length → d < k → laws_eqByteS.l0 k a b i = some (decide (a = b)) := by
  intro d
  induction d with
  | zero =>
    intro k i hp hd hk
    obtain ⟨k, rfl⟩ := rounds_succ hk
    simp only [laws_eqByteS.l0]; rw [if_neg (by omega)]
    have : a = b := by
      refine List.ext_getElem? fun j => ?_
      by_cases hj : j < i
      · exact hp j hj
      · rw [List.getElem?_eq_none (by omega), List.getElem?_eq_none (by omega)]
    simp [this]
  | succ d ih =>
    intro k i hp hd hk
    obtain ⟨k, rfl⟩ := rounds_succ hk
    simp only [laws_eqByteS.l0]; rw [if_pos (by omega), if_pos (by omega), if_pos (by omega)]
    by_cases e : rd a i = rd b i
    · rw [if_pos e, wrs (by omega)]
      refine ih k (i + 1) ?_ (by omega) (by omega)
      intro j hj
      by_cases e' : j = i
      · subst e'; rw [rd_some a j (by omega), rd_some b j (by omega), e]
      · exact hp j (by omega)
    · rw [if_neg e]
      have : ¬ a = b := fun h => e (by rw [h])
      simp [this]
theorem laws_eqByteS_eq (a b : List Int) (hl : a.length ≤ 1099511627776) (k : Nat) (hk : a.length < k) : laws_eqByteS.f k a b = some (decide (a = b)) := by
  unfold laws_eqByteS.f
  by_cases h : a.length = b.length
  · rw [if_pos (by omega)]
    exact laws_eqByteS_l a b hl h a.length k 0 (fun j hj => by omega) (by omega) hk
  · rw [if_neg (by omega)]
    have : ¬ a = b := fun e => h (by rw [e])
    simp [this]
theorem laws_markByteS_e (a0 : Int) (n : Nat) (h0 : 0 ≤ a0) (h1 : a0 + n ≤ 4611686018427387904) : ∀ (d k i : Nat) (x : List Int) (a : Int), x.length = n → a = a0 + i → i + d = n → d < k →
    ∃ m, laws_markByteS.l0 k x a i = some (a0 + n, m) := by
  intro d
  induction d with
  | zero =>
    intro k i x a hx ha hd hk
    obtain ⟨k, rfl⟩ := rounds_succ hk
    simp only [laws_markByteS.l0]; rw [if_neg (by omega)]
    exact ⟨x, by rw [ha]; congr 2; omega⟩
  | succ d ih =>
    intro k i x a hx ha hd hk
    obtain ⟨k, rfl⟩ := rounds_succ hk
    simp only [laws_markByteS.l0]; rw [if_pos (by omega), if_pos (by omega), wrs (by omega), wr (i := a + 1) (by omega) (by omega), Int.toNat_natCast]
    exact ih k (i + 1) _ _ (by simp [hx]) (by omega) (by omega) (by omega)
theorem laws_markByteS_ends (l : List Int) (a : Int) (h0 : 0 ≤ a) (h1 : a + l.length ≤ 4611686018427387904) (k : Nat) (hk : l.length < k) : ∃ m, laws_markByteS.f k l a = some (a + l.length, m) :=
  laws_markByteS_e a l.length h0 h1 l.length k 0 l a rfl (by omega) (by omega) hk
theorem laws_markByteS_l (a0 : Int) (n : Nat) (h0 : 0 ≤ a0) (h1 : a0 + n ≤ 4611686018427387904) : ∀ (d k i : Nat) (x : List Int) (a : Int), x.length = n → a = a0 + i → (∀ j, j < i → x[j]? = some ((a0 + (j : Int))%256)) → i + d = n → d < k →
    laws_markByteS.l0 k x a i = some (a0 + n, (List.range n).map fun (j : Nat) => (a0 + (j : Int))%256) := by
  intro d
  induction d with
  | zero =>
    intro k i x a hx ha hp hd hk
    obtain ⟨k, rfl⟩ := rounds_succ hk
    simp only [laws_markByteS.l0]; rw [if_neg (by omega)]
    have : x = (List.range n).map fun (j : Nat) => (a0 + (j : Int))%256 := by
      refine List.ext_getElem? fun j => ?_
      by_cases hj : j < n
      · rw [hp j (by omega), List.getElem?_map, List.getElem?_range hj]; rfl
      · rw [List.getElem?_eq_none (by omega), List.getElem?_eq_none (by simp; omega)]
    rw [this, ha]; congr 2; omega
  | succ d ih =>
    intro k i x a hx ha hp hd hk
    obtain ⟨k, rfl⟩ := rounds_succ hk
    simp only [laws_markByteS.l0]; rw [if_pos (by omega), if_pos (by omega), wrs (by omega), wr (i := a + 1) (by omega) (by omega), Int.toNat_natCast]
    refine ih k (i + 1) _ _ (by simp [hx]) (by omega) ?_ (by omega) (by omega)
    intro j hj
    rw [List.getElem?_set]
    by_cases e : i = j
    · subst e; rw [if_pos rfl, if_pos (by omega), ha]
    · rw [if_neg e]; exact hp j (by omega)
theorem laws_heldByteS_l (a0 : Int) (n : Nat) (h0 : 0 ≤ a0) (h1 : a0 + n ≤ 4611686018427387904) : ∀ (d k i : Nat) (a : Int), a = a0 + i → i + d = n → d < k →
    laws_heldByteS.l0 k ((List.range n).map fun (j : Nat) => (a0 + (j : Int))%256) a i = some (a0 + n) := by
  intro d
  induction d with
  | zero =>
    intro k i a ha hd hk
    obtain ⟨k, rfl⟩ := rounds_succ hk
    simp only [laws_heldByteS.l0]; rw [if_neg (by simp; omega)]
    rw [ha]; congr 1; omega
  | succ d ih =>
    intro k i a ha hd hk
    obtain ⟨k, rfl⟩ := rounds_succ hk
    simp only [laws_heldByteS.l0]; rw [if_pos (by simp; omega), if_pos (by omega), wrs (by omega), wr (i := a + 1) (by omega) (by omega)]
    rw [if_pos (by rw [rd_nat _ _ (by simp; omega)]; simp [ha])]
    exact ih k (i + 1) _ (by omega) (by omega) (by omega)
theorem laws_markByteS_held (l : List Int) (a : Int) (h0 : 0 ≤ a) (h1 : a + l.length ≤ 4611686018427387904) : ∃ m, ∀ k, l.length < k → laws_markByteS.f k l a = some (a + l.length, m) ∧ laws_heldByteS.f k m a = some (a + l.length) :=
  ⟨(List.range l.length).map fun (j : Nat) => (a + (j : Int))%256, fun k hk => ⟨laws_markByteS_l a l.length h0 h1 l.length k 0 l a rfl (by omega) (fun j hj => by omega) (by omega) hk, laws_heldByteS_l a l.length h0 h1 l.length k 0 a (by omega) (by omega) hk⟩⟩
theorem in_i64 {n : Int} (h : (Lit.int .i64 n).wf = true) : -9223372036854775808 ≤ n ∧ n ≤ 9223372036854775807 := bounds_i64 h
theorem in_u8 {n : Int} (h : (Lit.int .u8 n).wf = true) : 0 ≤ n ∧ n ≤ 255 := bounds_u8 h
theorem tmod_cases (a b : Int) (hb : 0 < b) : (0 ≤ a.tmod b ∧ a.tmod b = a % b) ∨ (a.tmod b < 0 ∧ a.tmod b + b = a % b) := by
  have h1 := Int.emod_nonneg a (show b ≠ 0 by omega)
  have h2 := Int.emod_lt_of_pos a hb
  rw [Int.tmod_eq_emod]
  split
  · left; omega
  · rename_i hn
    have : a % b ≠ 0 := fun e => hn (.inr (Int.dvd_of_emod_eq_zero e))
    right; omega
theorem tmod_nn (a b : Int) (ha : 0 ≤ a) : a.tmod b = a % b := by rw [Int.tmod_eq_emod, if_pos (.inl ha)]; omega
theorem impl_InRange_eq (a b c : Int) : impl_InRange.f a b c = some (decide (b ≤ a ∧ a ≤ c)) := by
  unfold impl_InRange.f; by_cases h : b ≤ a <;> simp [h]
theorem spec_l1In_eq (a b c : Int) : spec_l1In.f a b c = some (decide (b ≤ a ∧ a ≤ c)) := by
  unfold spec_l1In.f; by_cases h : b ≤ a <;> simp [h]
def pmod (a b : Int) : Int := if 1 ≤ b ∧ b ≤ 1000000000000 then a % b else 0
theorem impl_Mod_eq (a b : Int) : impl_Mod.f a b = some (pmod a b) := by
  unfold impl_Mod.f pmod
  rw [impl_InRange_eq]
  by_cases h : 1 ≤ b ∧ b ≤ 1000000000000
  · have h1 := Int.emod_nonneg a (show b ≠ 0 by omega)
    have h2 := Int.emod_lt_of_pos a (show 0 < b by omega)
    simp only [h, and_self, decide_true, Option.bind_some, if_true]
    rw [if_neg (by omega)]
    rcases tmod_cases a b (by omega) with ⟨h3, h4⟩ | ⟨h3, h4⟩
    · rw [if_neg (by omega), h4]
    · rw [if_pos h3, h4, wr (by omega) (by omega)]
  · simp [h]
theorem spec_Mod_eq (a b : Int) : spec_Mod.f a b = some (pmod a b) := by
  unfold spec_Mod.f pmod
  rw [spec_l1In_eq]
  by_cases h : 1 ≤ b ∧ b ≤ 1000000000000
  · have h1 := Int.emod_nonneg a (show b ≠ 0 by omega)
    have h2 := Int.emod_lt_of_pos a (show 0 < b by omega)
    simp only [h, and_self, decide_true, Option.bind_some, if_true]
    rw [if_neg (by omega)]
    rcases tmod_cases a b (by omega) with ⟨h3, h4⟩ | ⟨h3, h4⟩
    · rw [h4, wr (by omega) (by omega), tmod_nn _ _ (by omega), Int.add_emod_right, Int.emod_emod_of_dvd _ (Int.dvd_refl b)]
    · rw [h4, wr (by omega) (by omega), tmod_nn _ _ (by omega), Int.emod_emod_of_dvd _ (Int.dvd_refl b)]
  · simp [h]
def hst (a v : Int) : Int := (a * 1000003 + v % 2147483647 + 13) % 2147483647
theorem hst_in (a v : Int) : 0 ≤ hst a v ∧ hst a v < 2147483647 := by unfold hst; omega
theorem pmod_M (v : Int) : pmod v 2147483647 = v % 2147483647 := by unfold pmod; rw [if_pos (by omega)]
theorem hst_body (a v : Int) (h0 : 0 ≤ a) (h1 : a < 2147483647) : Int.tmod (wrap64 ((wrap64 ((wrap64 (a * 1000003)) + v % 2147483647)) + 13)) 2147483647 = hst a v := by
  unfold hst
  rw [wr (i := a * 1000003) (by omega) (by omega), wr (i := a * 1000003 + _) (by omega) (by omega), wr (by omega) (by omega), tmod_nn _ _ (by omega)]
theorem drop_rd (l : List Int) (i : Nat) (h : i < l.length) : l.drop i = rd l i :: l.drop (i + 1) := by rw [rd_nat l i h]; exact List.drop_eq_getElem_cons h
theorem hfold_in (l : List Int) : ∀ a, 0 ≤ a → a < 2147483647 → 0 ≤ l.foldl hst a ∧ l.foldl hst a < 2147483647 := by
  induction l with
  | nil => exact fun a h h' => ⟨h, h'⟩
  | cons x l ih => exact fun a _ _ => ih _ (hst_in a x).1 (hst_in a x).2
theorem impl_fold_eq (a v : Int) (h0 : 0 ≤ a) (h1 : a < 2147483647) : impl_fold.f a v = some (hst a v) := by
  unfold impl_fold.f
  rw [impl_Mod_eq, pmod_M, Option.bind_some, hst_body a v h0 h1]
def khash (key : Int) (l : List Int) : Int := hst (l.foldl hst (hst 11 key)) key
theorem khash_in (key : Int) (l : List Int) : 0 ≤ khash key l ∧ khash key l < 2147483647 := hst_in _ _
theorem impl_KeyedHash_l (key : Int) (l : List Int) (hl : l.length ≤ 140737488351232) : ∀ (d k i : Nat) (a : Int), 0 ≤ a → a < 2147483647 → i + d = l.length → d < k → impl_KeyedHash.l0 k key a l (l.length : Int) i = some (hst ((l.drop i).foldl hst a) key) := by
  intro d
  induction d with
  | zero =>
    intro k i a h0 h1 hd hk
    obtain ⟨k, rfl⟩ := rounds_succ hk
    simp only [impl_KeyedHash.l0]; rw [if_neg (by omega), List.drop_eq_nil_of_le (by omega), impl_fold_eq a _ h0 h1]; rfl
  | succ d ih =>
    intro k i a h0 h1 hd hk
    obtain ⟨k, rfl⟩ := rounds_succ hk
    simp only [impl_KeyedHash.l0]; rw [if_pos (by omega), if_pos (by omega), if_pos (by omega), impl_fold_eq a _ h0 h1, Option.bind_some, wrs (by omega), drop_rd l i (by omega)]
    exact ih k (i + 1) _ (hst_in _ _).1 (hst_in _ _).2 (by omega) (by omega)
theorem impl_KeyedHash_eq (key : Int) (l : List Int) (hl : l.length ≤ 140737488351232) (k : Nat) (hk : l.length < k) : impl_KeyedHash.f k key l = some (khash key l) := by
  have := impl_KeyedHash_l key l hl l.length k 0 (hst 11 key) (hst_in _ _).1 (hst_in _ _).2 (by omega) hk
  unfold impl_KeyedHash.f
  rw [impl_fold_eq 11 key (by omega) (by omega), Option.bind_some]
  simpa [khash] using this
def encb (key : Int) (l : List Int) (j : Nat) : Int := (rd l j + khash key [(j : Int)]) % 256
def decb (key : Int) (l : List Int) (j : Nat) : Int := (rd l j - khash key [(j : Int)]) % 256
def encl (key : Int) (l : List Int) : List Int := (List.range l.length).map fun (j : Nat) => encb key l j
def decl (key : Int) (l : List Int) : List Int := (List.range l.length).map fun (j : Nat) => decb key l j
theorem encl_length (key : Int) (l : List Int) : (encl key l).length = l.length := by simp [encl]
theorem decl_length (key : Int) (l : List Int) : (decl key l).length = l.length := by simp [decl]
theorem impl_Encrypt_l (key : Int) (l : List Int) (hl : l.length ≤ 1099511627776) : ∀ (d k i : Nat) (o : List Int), o = (List.range i).map (fun (j : Nat) => encb key l j) → i + d = l.length → d + 5 < k → impl_Encrypt.l0 k key o l (l.length : Int) i = some (encl key l) := by
  intro d
  induction d with
  | zero =>
    intro k i o ho hd hk
    obtain ⟨k, rfl⟩ := rounds_succ hk
    simp only [impl_Encrypt.l0]; rw [if_neg (by omega), ho, show i = l.length by omega]; rfl
  | succ d ih =>
    intro k i o ho hd hk
    obtain ⟨k, rfl⟩ := rounds_succ hk
    simp only [impl_Encrypt.l0]; rw [if_pos (by omega), if_pos (by omega), if_pos (by omega), impl_KeyedHash_eq key [(i : Int)] (by simp) k (by simp; omega), Option.bind_some, if_pos (by rw [ho]; simp; omega), wrs (by omega)]
    exact ih k (i + 1) _ (by rw [ho, List.range_succ, List.map_append]; rfl) (by omega) (by omega)
theorem impl_Encrypt_eq (key : Int) (l : List Int) (hl : l.length ≤ 1099511627776) (k : Nat) (hk : l.length + 5 < k) : impl_Encrypt.f k key l = some (encl key l) :=
  impl_Encrypt_l key l hl l.length k 0 _ rfl (by omega) hk
theorem spec_Hash_l (l : List Int) (hl : l.length ≤ 140737488351232) : ∀ (d k i : Nat) (a : Int), 0 ≤ a → a < 2147483647 → i + d = l.length → d < k → spec_Hash.l0 k l a i = some ((l.drop i).foldl hst a) := by
  intro d
  induction d with
  | zero =>
    intro k i a h0 h1 hd hk
    obtain ⟨k, rfl⟩ := rounds_succ hk
    simp only [spec_Hash.l0]; rw [if_neg (by omega), List.drop_eq_nil_of_le (by omega)]; rfl
  | succ d ih =>
    intro k i a h0 h1 hd hk
    obtain ⟨k, rfl⟩ := rounds_succ hk
    simp only [spec_Hash.l0]; rw [if_pos (by omega), if_pos (by omega), spec_Mod_eq, pmod_M, Option.bind_some, hst_body a _ h0 h1, wrs (by omega), drop_rd l i (by omega)]
    exact ih k (i + 1) _ (hst_in _ _).1 (hst_in _ _).2 (by omega) (by omega)
theorem spec_Hash_eq (l : List Int) (hl : l.length ≤ 140737488351232) (k : Nat) (hk : l.length < k) : spec_Hash.f k l = some (l.foldl hst 11) := by
  have := spec_Hash_l l hl l.length k 0 11 (by omega) (by omega) (by omega) hk
  simpa [spec_Hash.f] using this
theorem spec_KeyedHash_eq (key : Int) (l : List Int) (hl : l.length ≤ 17592186044400) (k : Nat) (hk : l.length + 2 < k) : spec_KeyedHash.f k key l = some (khash key l) := by
  unfold spec_KeyedHash.f
  simp only [Option.bind_some]
  rw [if_pos (by simp; omega), if_pos (by simp; omega), spec_Hash_eq _ (by simp; omega) k (by simp; omega)]
  simp [khash]
theorem take_rd (l : List Int) (i : Nat) (h : i < l.length) : l.take (i + 1) = l.take i ++ [rd l i] := by rw [rd_nat l i h, List.take_add_one, List.getElem?_eq_getElem h]; rfl
theorem wrb (l : List Int) (hw : ∀ x ∈ l, (Lit.int .u8 x).wf = true) (i : Nat) (h : i < l.length) : 0 ≤ rd l i ∧ rd l i ≤ 255 := by
  rw [rd_nat l i h]; exact in_u8 (hw _ (List.getElem_mem h))
theorem spec_Encrypt_l (key : Int) (l : List Int) (hl : l.length ≤ 1099511627776) (hw : ∀ x ∈ l, (Lit.int .u8 x).wf = true) : ∀ (d k i : Nat) (o : List Int), o = (List.range i).map (fun (j : Nat) => encb key l j) → i + d = l.length → d + 5 < k → spec_Encrypt.l0 k key l o i = some (encl key l) := by
  intro d
  induction d with
  | zero =>
    intro k i o ho hd hk
    obtain ⟨k, rfl⟩ := rounds_succ hk
    simp only [spec_Encrypt.l0]; rw [if_neg (by omega), ho, show i = l.length by omega]; rfl
  | succ d ih =>
    intro k i o ho hd hk
    obtain ⟨k, rfl⟩ := rounds_succ hk
    have hb := wrb l hw i (by omega)
    have hh := khash_in key [(i : Int)]
    simp only [spec_Encrypt.l0]; rw [if_pos (by omega), if_pos (by omega), spec_KeyedHash_eq key [(i : Int)] (by simp) k (by simp; omega), Option.bind_some, tmod_nn _ _ hh.1]
    rw [wr (i := rd l i) (by omega) (by omega), wr (i := rd l i + _) (by omega) (by omega), tmod_nn _ _ (by omega), if_pos (by rw [ho]; simp; omega), wrs (by omega)]
    have e : (rd l i + khash key [(i : Int)] % 256) % 256 % 256 = encb key l i := by unfold encb; omega
    rw [e]
    exact ih k (i + 1) _ (by rw [ho, List.range_succ, List.map_append]; rfl) (by omega) (by omega)
theorem spec_Encrypt_eq (key : Int) (l : List Int) (hl : l.length ≤ 1099511627776) (hw : ∀ x ∈ l, (Lit.int .u8 x).wf = true) (k : Nat) (hk : l.length + 5 < k) : spec_Encrypt.f k key l = some (encl key l) :=
  spec_Encrypt_l key l hl hw l.length k 0 _ rfl (by omega) hk
theorem FnExactEncrypt : laws_FnExactEncrypt.Pure := by
  intro key b _ _ _ hw
  obtain ⟨K, hK⟩ : ∃ K, K = (b).length + ((encl key b)).length + 60 := ⟨_, rfl⟩
  refine ⟨K + 8, ?_⟩
  unfold laws_FnExactEncrypt.f
  by_cases z_b : b.length ≤ 1048576
  · rw [if_neg (by omega)]
    have hr2 := encl_length key b
    have h1_0 : ∀ j, laws_toByteS.f (K + j) b = some b := fun j => laws_toByteS_eq b z_b _ (by omega)
    have h2_0 : ∀ j, laws_eqByteS.f (K + j) b b = some true := fun j => by rw [laws_eqByteS_eq b b (by omega) _ (by omega)]; simp
    have hi : ∀ j, impl_Encrypt.f (K + j) key b = some (encl key b) := fun j => impl_Encrypt_eq key b (by omega) _ (by omega)
    have hs : ∀ j, spec_Encrypt.f (K + j) key b = some (encl key b) := fun j => spec_Encrypt_eq key b (by omega) hw _ (by omega)
    have he : ∀ j, laws_eqByteS.f (K + j) (encl key b) (encl key b) = some true := fun j => by rw [laws_eqByteS_eq _ _ (by omega) _ (by omega)]; simp
    have hm_0 : ∀ j, ∃ m, laws_markByteS.f (K + j) b (1 : Int) = some (((1 : Int) + (b.length : Int)), m) := fun j => laws_markByteS_ends b (1 : Int) (by omega) (by omega) _ (by omega)
    have n1 : ¬ (((1 : Int) + (b.length : Int)) < 0) := by omega
    obtain ⟨mm, hmm⟩ := laws_markByteS_held (encl key b) 1 (by omega) (by omega)
    have hk1 : ∀ j, laws_markByteS.f (K + j) (encl key b) 1 = some (1 + (((encl key b)).length : Int), mm) := fun j => (hmm _ (by omega)).1
    have hk2 : ∀ j, laws_heldByteS.f (K + j) mm 1 = some (1 + (((encl key b)).length : Int)) := fun j => (hmm _ (by omega)).2
    have n2 : ¬ ((1 : Int) + (((encl key b)).length : Int) < 0) := by omega
    obtain ⟨m_0, hmk_0⟩ := hm_0 8
    simp only [laws_FnExactEncrypt.j0, h1_0, h2_0, hi, hs, he, hk1, hk2, hmk_0, n1, n2, Option.bind_some, if_true, if_false, Bool.not_true, Bool.false_eq_true]
  · rw [if_pos (by omega)]
end Go.Proofs.Ytomnploadmbagaa.Pure
