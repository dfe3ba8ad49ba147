/- The program's DeriveFromString answers as the reference's does, for all keys and strings. Conditions: none. -/
import Derived.Test.YtomnploadmbagaaGFnExactDeriveFromStringx1
import Derived.OpenShut
namespace Go.Proofs.Ytomnploadmbagaa.Pure
open Go.RowKit Go.Proofs.Ytomnploadmbagaa.GFnExactDeriveFromString Go.Proofs.YtomnploadmbagaaW.PrintWords Go.Proofs.YtomnploadmbagaaW.PrintLast
theorem wr {i : Int} (h0 : -9223372036854775808 ≤ i) (h : i ≤ 9223372036854775807) : wrap64 i = i := by unfold wrap64; omega
theorem wrs {i : Nat} (h : i < 9223372036854775807) : wrap64 ((i : Int) + 1) = ((i + 1 : Nat) : Int) := by unfold wrap64; omega
theorem rd_nat (l : List Int) (i : Nat) (h : i < l.length) : rd l (i : Int) = l[i] := by simp [rd, h]
theorem rd_some (l : List Int) (i : Nat) (h : i < l.length) : l[i]? = some (rd l (i : Int)) := by rw [rd_nat l i h, List.getElem?_eq_getElem h]
theorem rounds_succ {d k : Nat} (h : d < k) : ∃ m, k = m + 1 := ⟨k - 1, by omega⟩
theorem in_i64 {n : Int} (h : (Lit.int .i64 n).wf = true) : -9223372036854775808 ≤ n ∧ n ≤ 9223372036854775807 := bounds_i64 h
theorem in_u8 {n : Int} (h : (Lit.int .u8 n).wf = true) : 0 ≤ n ∧ n ≤ 255 := bounds_u8 h
theorem bof_u8 (s : ByteArray) : ∀ x ∈ bytesOf s, (Lit.int .u8 x).wf = true := by
  intro x hx
  unfold bytesOf at hx
  obtain ⟨b, _, rfl⟩ := List.mem_map.1 hx
  have := b.toNat_lt
  simp [Lit.wf, IntKind.min, IntKind.max, IntKind.signed, IntKind.bits]; omega
theorem take_rd (l : List Int) (i : Nat) (h : i < l.length) : l.take (i + 1) = l.take i ++ [rd l i] := by rw [rd_nat l i h, List.take_add_one, List.getElem?_eq_getElem h]; rfl
theorem wrb (l : List Int) (hw : ∀ x ∈ l, (Lit.int .u8 x).wf = true) (i : Nat) (h : i < l.length) : 0 ≤ rd l i ∧ rd l i ≤ 255 := by
  rw [rd_nat l i h]; exact in_u8 (hw _ (List.getElem_mem h))
theorem impl_BI_l (l : List Int) (hl : l.length ≤ 1099511627776) (hw : ∀ x ∈ l, (Lit.int .u8 x).wf = true) : ∀ (d k i : Nat) (o : List Int), o = (l.length : Int) :: l.take i → i + d = l.length → d < k → impl_BytesToInts.l0 k o l (l.length : Int) i = some ((l.length : Int) :: l) := by
  intro d
  induction d with
  | zero =>
    intro k i o ho hd hk
    obtain ⟨k, rfl⟩ := rounds_succ hk
    simp only [impl_BytesToInts.l0]; rw [if_neg (by omega), ho, List.take_of_length_le (by omega)]
  | succ d ih =>
    intro k i o ho hd hk
    obtain ⟨k, rfl⟩ := rounds_succ hk
    have hb := wrb l hw i (by omega)
    simp only [impl_BytesToInts.l0]; rw [if_pos (by omega), if_pos (by omega), if_pos (by omega), if_pos (by rw [ho, List.length_cons, List.length_take]; omega), wrs (by omega), wr (i := rd l i) (by omega) (by omega)]
    exact ih k (i + 1) _ (by rw [ho, take_rd l i (by omega)]; rfl) (by omega) (by omega)
theorem impl_BI_eq (l : List Int) (hl : l.length ≤ 1099511627776) (hw : ∀ x ∈ l, (Lit.int .u8 x).wf = true) (k : Nat) (hk : l.length < k) : impl_BytesToInts.f k l = some ((l.length : Int) :: l) :=
  impl_BI_l l hl hw l.length k 0 _ rfl (by omega) hk
theorem tmod_cases (a b : Int) (hb : 0 < b) : (0 ≤ a.tmod b ∧ a.tmod b = a % b) ∨ (a.tmod b < 0 ∧ a.tmod b + b = a % b) := by
  have h1 := Int.emod_nonneg a (show b ≠ 0 by omega)
  have h2 := Int.emod_lt_of_pos a hb
  rw [Int.tmod_eq_emod]
  split
  · left; omega
  · rename_i hn
    have : a % b ≠ 0 := fun e => hn (.inr (Int.dvd_of_emod_eq_zero e))
    right; omega
theorem tmod_nn (a b : Int) (ha : 0 ≤ a) : a.tmod b = a % b := by rw [Int.tmod_eq_emod, if_pos (.inl ha)]; omega
def pmod (a b : Int) : Int := if 1 ≤ b ∧ b ≤ 1000000000000 then a % b else 0
def hst (a v : Int) : Int := (a * 1000003 + v % 2147483647 + 13) % 2147483647
theorem hst_in (a v : Int) : 0 ≤ hst a v ∧ hst a v < 2147483647 := by unfold hst; omega
theorem pmod_M (v : Int) : pmod v 2147483647 = v % 2147483647 := by unfold pmod; rw [if_pos (by omega)]
theorem hst_body (a v : Int) (h0 : 0 ≤ a) (h1 : a < 2147483647) : Int.tmod (wrap64 ((wrap64 ((wrap64 (a * 1000003)) + v % 2147483647)) + 13)) 2147483647 = hst a v := by
  unfold hst
  rw [wr (i := a * 1000003) (by omega) (by omega), wr (i := a * 1000003 + _) (by omega) (by omega), wr (by omega) (by omega), tmod_nn _ _ (by omega)]
theorem drop_rd (l : List Int) (i : Nat) (h : i < l.length) : l.drop i = rd l i :: l.drop (i + 1) := by rw [rd_nat l i h]; exact List.drop_eq_getElem_cons h
theorem hfold_in (l : List Int) : ∀ a, 0 ≤ a → a < 2147483647 → 0 ≤ l.foldl hst a ∧ l.foldl hst a < 2147483647 := by
  induction l with
  | nil => exact fun a h h' => ⟨h, h'⟩
  | cons x l ih => exact fun a _ _ => ih _ (hst_in a x).1 (hst_in a x).2
theorem impl_InRange_eq (a b c : Int) : impl_InRange.f a b c = some (decide (b ≤ a ∧ a ≤ c)) := by
  unfold impl_InRange.f; by_cases h : b ≤ a <;> simp [h]
theorem impl_Mod_eq (a b : Int) : impl_Mod.f a b = some (pmod a b) := by
  unfold impl_Mod.f pmod
  rw [impl_InRange_eq]
  by_cases h : 1 ≤ b ∧ b ≤ 1000000000000
  · have h1 := Int.emod_nonneg a (show b ≠ 0 by omega)
    have h2 := Int.emod_lt_of_pos a (show 0 < b by omega)
    simp only [h, and_self, decide_true, Option.bind_some, if_true]
    rw [if_neg (by omega)]
    rcases tmod_cases a b (by omega) with ⟨h3, h4⟩ | ⟨h3, h4⟩
    · rw [if_neg (by omega), h4]
    · rw [if_pos h3, h4, wr (by omega) (by omega)]
  · simp [h]
theorem impl_fold_eq (a v : Int) (h0 : 0 ≤ a) (h1 : a < 2147483647) : impl_fold.f a v = some (hst a v) := by
  unfold impl_fold.f
  rw [impl_Mod_eq, pmod_M, Option.bind_some, hst_body a v h0 h1]
def khash (key : Int) (l : List Int) : Int := hst (l.foldl hst (hst 11 key)) key
theorem khash_in (key : Int) (l : List Int) : 0 ≤ khash key l ∧ khash key l < 2147483647 := hst_in _ _
theorem impl_KeyedHash_l (key : Int) (l : List Int) (hl : l.length ≤ 140737488351232) : ∀ (d k i : Nat) (a : Int), 0 ≤ a → a < 2147483647 → i + d = l.length → d < k → impl_KeyedHash.l0 k key a l (l.length : Int) i = some (hst ((l.drop i).foldl hst a) key) := by
  intro d
  induction d with
  | zero =>
    intro k i a h0 h1 hd hk
    obtain ⟨k, rfl⟩ := rounds_succ hk
    simp only [impl_KeyedHash.l0]; rw [if_neg (by omega), List.drop_eq_nil_of_le (by omega), impl_fold_eq a _ h0 h1]; rfl
  | succ d ih =>
    intro k i a h0 h1 hd hk
    obtain ⟨k, rfl⟩ := rounds_succ hk
    simp only [impl_KeyedHash.l0]; rw [if_pos (by omega), if_pos (by omega), if_pos (by omega), impl_fold_eq a _ h0 h1, Option.bind_some, wrs (by omega), drop_rd l i (by omega)]
    exact ih k (i + 1) _ (hst_in _ _).1 (hst_in _ _).2 (by omega) (by omega)
theorem impl_KeyedHash_eq (key : Int) (l : List Int) (hl : l.length ≤ 140737488351232) (k : Nat) (hk : l.length < k) : impl_KeyedHash.f k key l = some (khash key l) := by
  have := impl_KeyedHash_l key l hl l.length k 0 (hst 11 key) (hst_in _ _).1 (hst_in _ _).2 (by omega) hk
  unfold impl_KeyedHash.f
  rw [impl_fold_eq 11 key (by omega) (by omega), Option.bind_some]
  simpa [khash] using this
def dkey (key : Int) (s : ByteArray) : Int := if khash key (((bytesOf s).length : Int) :: bytesOf s) = 0 then 1 else khash key (((bytesOf s).length : Int) :: bytesOf s)
theorem dkey_in (key : Int) (s : ByteArray) : 1 ≤ dkey key s ∧ dkey key s ≤ 2147483646 := by
  have := khash_in key (((bytesOf s).length : Int) :: bytesOf s)
  unfold dkey; split <;> omega
theorem impl_DS_eq (key : Int) (s : ByteArray) (hs : s.size ≤ 1048576) (k : Nat) (hk : s.size + 5 < k) : impl_DeriveFromString.f k key s = some (dkey key s) := by
  have hl := bytesOf_length s
  unfold impl_DeriveFromString.f dkey
  rw [if_pos hs, impl_BI_eq (bytesOf s) (by omega) (bof_u8 s) k (by omega), Option.bind_some, impl_KeyedHash_eq key _ (by simp; omega) k (by simp; omega), Option.bind_some]
  split <;> rfl
theorem spec_BI_l (l : List Int) (hl : l.length ≤ 1099511627776) (hw : ∀ x ∈ l, (Lit.int .u8 x).wf = true) : ∀ (d k i : Nat) (o : List Int), o = (l.length : Int) :: l.take i → i + d = l.length → d < k → spec_BytesToInts.l0 k l o i = some ((l.length : Int) :: l) := by
  intro d
  induction d with
  | zero =>
    intro k i o ho hd hk
    obtain ⟨k, rfl⟩ := rounds_succ hk
    simp only [spec_BytesToInts.l0]; rw [if_neg (by omega), ho, List.take_of_length_le (by omega)]
  | succ d ih =>
    intro k i o ho hd hk
    obtain ⟨k, rfl⟩ := rounds_succ hk
    have hb := wrb l hw i (by omega)
    simp only [spec_BytesToInts.l0]; rw [if_pos (by omega), if_pos (by omega), if_pos (by rw [ho, List.length_cons, List.length_take]; omega), wrs (by omega), wr (i := rd l i) (by omega) (by omega)]
    exact ih k (i + 1) _ (by rw [ho, take_rd l i (by omega)]; rfl) (by omega) (by omega)
theorem spec_BI_eq (l : List Int) (hl : l.length ≤ 1099511627776) (hw : ∀ x ∈ l, (Lit.int .u8 x).wf = true) (k : Nat) (hk : l.length < k) : spec_BytesToInts.f k l = some ((l.length : Int) :: l) :=
  spec_BI_l l hl hw l.length k 0 _ rfl (by omega) hk
theorem spec_l1In_eq (a b c : Int) : spec_l1In.f a b c = some (decide (b ≤ a ∧ a ≤ c)) := by
  unfold spec_l1In.f; by_cases h : b ≤ a <;> simp [h]
theorem spec_Mod_eq (a b : Int) : spec_Mod.f a b = some (pmod a b) := by
  unfold spec_Mod.f pmod
  rw [spec_l1In_eq]
  by_cases h : 1 ≤ b ∧ b ≤ 1000000000000
  · have h1 := Int.emod_nonneg a (show b ≠ 0 by omega)
    have h2 := Int.emod_lt_of_pos a (show 0 < b by omega)
    simp only [h, and_self, decide_true, Option.bind_some, if_true]
    rw [if_neg (by omega)]
    rcases tmod_cases a b (by omega) with ⟨h3, h4⟩ | ⟨h3, h4⟩
    · rw [h4, wr (by omega) (by omega), tmod_nn _ _ (by omega), Int.add_emod_right, Int.emod_emod_of_dvd _ (Int.dvd_refl b)]
    · rw [h4, wr (by omega) (by omega), tmod_nn _ _ (by omega), Int.emod_emod_of_dvd _ (Int.dvd_refl b)]
  · simp [h]
theorem spec_Hash_l (l : List Int) (hl : l.length ≤ 140737488351232) : ∀ (d k i : Nat) (a : Int), 0 ≤ a → a < 2147483647 → i + d = l.length → d < k → spec_Hash.l0 k l a i = some ((l.drop i).foldl hst a) := by
  intro d
  induction d with
  | zero =>
    intro k i a h0 h1 hd hk
    obtain ⟨k, rfl⟩ := rounds_succ hk
    simp only [spec_Hash.l0]; rw [if_neg (by omega), List.drop_eq_nil_of_le (by omega)]; rfl
  | succ d ih =>
    intro k i a h0 h1 hd hk
    obtain ⟨k, rfl⟩ := rounds_succ hk
    simp only [spec_Hash.l0]; rw [if_pos (by omega), if_pos (by omega), spec_Mod_eq, pmod_M, Option.bind_some, hst_body a _ h0 h1, wrs (by omega), drop_rd l i (by omega)]
    exact ih k (i + 1) _ (hst_in _ _).1 (hst_in _ _).2 (by omega) (by omega)
theorem spec_Hash_eq (l : List Int) (hl : l.length ≤ 140737488351232) (k : Nat) (hk : l.length < k) : spec_Hash.f k l = some (l.foldl hst 11) := by
  have := spec_Hash_l l hl l.length k 0 11 (by omega) (by omega) (by omega) hk
  simpa [spec_Hash.f] using this
theorem spec_KeyedHash_eq (key : Int) (l : List Int) (hl : l.length ≤ 17592186044400) (k : Nat) (hk : l.length + 2 < k) : spec_KeyedHash.f k key l = some (khash key l) := by
  unfold spec_KeyedHash.f
  simp only [Option.bind_some]
  rw [if_pos (by simp; omega), if_pos (by simp; omega), spec_Hash_eq _ (by simp; omega) k (by simp; omega)]
  simp [khash]
theorem spec_DS_eq (key : Int) (s : ByteArray) (hs : s.size ≤ 1048576) (k : Nat) (hk : s.size + 5 < k) : spec_DeriveFromString.f k key s = some (dkey key s) := by
  have hl := bytesOf_length s
  have := khash_in key (((bytesOf s).length : Int) :: bytesOf s)
  unfold spec_DeriveFromString.f dkey
  rw [if_pos hs, spec_BI_eq (bytesOf s) (by omega) (bof_u8 s) k (by omega), Option.bind_some, spec_KeyedHash_eq key _ (by simp; omega) k (by simp; omega), Option.bind_some]
  generalize khash key (((bytesOf s).length : Int) :: bytesOf s) = n at this
  unfold spec_Max.f
  by_cases h : n = 0
  · rw [if_pos h, if_neg (by omega), Option.bind_some]
  · rw [if_neg h]
    by_cases h1 : n > 1
    · rw [if_pos h1, Option.bind_some]
    · rw [if_neg h1, Option.bind_some]; congr 1; omega
theorem FnExactDeriveFromString : laws_FnExactDeriveFromString.Pure := by
  intro key s _ _
  refine ⟨s.size + 10, ?_⟩
  unfold laws_FnExactDeriveFromString.f
  by_cases h : s.size ≤ 1048576
  · rw [if_neg (by omega), spec_DS_eq key s h _ (by omega), Option.bind_some, impl_DS_eq key s h _ (by omega), Option.bind_some, if_pos rfl]
  · rw [if_pos (by omega)]
end Go.Proofs.Ytomnploadmbagaa.Pure
