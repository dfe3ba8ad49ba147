/- Changing one value modulo Modulus changes the keyed hash, and derived keys are valid, for all inputs of the law. Conditions: none. -/
import Derived.Test.YtdoackhmdcpfaaaGFnKeyedHashx3
import Derived.OpenShut
namespace Go.Proofs.Ytdoackhmdcpfaaa.Pure
open Go.RowKit Go.Proofs.Ytdoackhmdcpfaaa.GFnKeyedHash Go.Proofs.YtdoackhmdcpfaaaW.PrintWords Go.Proofs.YtdoackhmdcpfaaaW.PrintLast
theorem wr {i : Int} (h0 : -9223372036854775808 ≤ i) (h : i ≤ 9223372036854775807) : wrap64 i = i := by unfold wrap64; omega
theorem wrs {i : Nat} (h : i < 9223372036854775807) : wrap64 ((i : Int) + 1) = ((i + 1 : Nat) : Int) := by unfold wrap64; omega
theorem rd_nat (l : List Int) (i : Nat) (h : i < l.length) : rd l (i : Int) = l[i] := by simp [rd, h]
theorem rd_some (l : List Int) (i : Nat) (h : i < l.length) : l[i]? = some (rd l (i : Int)) := by rw [rd_nat l i h, List.getElem?_eq_getElem h]
theorem rounds_succ {d k : Nat} (h : d < k) : ∃ m, k = m + 1 := ⟨k - 1, by omega⟩
theorem in_i64 {n : Int} (h : (Lit.int .i64 n).wf = true) : -9223372036854775808 ≤ n ∧ n ≤ 9223372036854775807 := bounds_i64 h
theorem in_u8 {n : Int} (h : (Lit.int .u8 n).wf = true) : 0 ≤ n ∧ n ≤ 255 := bounds_u8 h
theorem tmod_cases (a b : Int) (hb : 0 < b) : (0 ≤ a.tmod b ∧ a.tmod b = a % b) ∨ (a.tmod b < 0 ∧ a.tmod b + b = a % b) := by
  have h1 := Int.emod_nonneg a (show b ≠ 0 by omega)
  have h2 := Int.emod_lt_of_pos a hb
  rw [Int.tmod_eq_emod]
  split
  · left; omega
  · rename_i hn
    have : a % b ≠ 0 := fun e => hn (.inr (Int.dvd_of_emod_eq_zero e))
    right; omega
theorem tmod_nn (a b : Int) (ha : 0 ≤ a) : a.tmod b = a % b := by rw [Int.tmod_eq_emod, if_pos (.inl ha)]; omega
theorem and255 (y : Int) : 0 ≤ Go.bits .and .i64 y 255 ∧ Go.bits .and .i64 y 255 ≤ 255 := by
  have h : ((BitVec.ofInt 64 y &&& BitVec.ofInt 64 255).toNat) ≤ 255 := by
    rw [BitVec.toNat_and]
    exact Nat.and_le_right
  have e : Go.bits .and .i64 y 255 = IntKind.i64.wrap ((BitVec.ofInt 64 y &&& BitVec.ofInt 64 255).toNat : Int) := rfl
  rw [e]
  generalize (BitVec.ofInt 64 y &&& BitVec.ofInt 64 255).toNat = m at h
  rw [IntKind.wrap_i64]; omega
theorem l1New_l (b : List Int) (_hb : b.length ≤ 1048576) : ∀ (d k i : Nat) (h : Int), i + d = b.length → d < k → ∃ h', spec_l1New.l0 k b h i = some (b, 0, h') := by
  intro d
  induction d with
  | zero =>
    intro k i h hd hk
    obtain ⟨k, rfl⟩ := rounds_succ hk
    simp only [spec_l1New.l0]; rw [if_neg (by omega)]
    exact ⟨h, rfl⟩
  | succ d ih =>
    intro k i h hd hk
    obtain ⟨k, rfl⟩ := rounds_succ hk
    simp only [spec_l1New.l0]; rw [if_pos (by omega)]
    by_cases h4 : (i : Int) < 4000
    · rw [if_pos h4, if_pos (by omega), wrs (by omega)]
      exact ih k (i + 1) _ (by omega) (by omega)
    · rw [if_neg h4]
      exact ⟨h, rfl⟩
theorem l1New_eq (b : List Int) (hb : b.length ≤ 1048576) (k : Nat) (hk : b.length < k) : ∃ h', spec_l1New.f k b = some (b, 0, h') :=
  l1New_l b hb b.length k 0 _ (by omega) hk
def Cur (b : List Int) (i : Int) : Prop := 0 ≤ i ∧ i ≤ (b.length : Int)
theorem l1Byte_eq (b : List Int) (hb : b.length ≤ 1048576) (i h : Int) (hc : Cur b i) : ∃ x i' h', spec_l1Byte.f b i h = some (x, i', h') ∧ 0 ≤ x ∧ x ≤ 255 ∧ Cur b i' := by
  unfold Cur at *
  unfold spec_l1Byte.f
  by_cases h1 : i < (b.length : Int)
  · rw [if_pos h1, if_pos hc.1]
    exact ⟨_, _, _, rfl, (and255 _).1, (and255 _).2, by rw [wr (by omega) (by omega)]; omega⟩
  · rw [if_neg h1]
    exact ⟨_, _, _, rfl, (and255 _).1, (and255 _).2, hc⟩
theorem l1Below_eq (b : List Int) (hb : b.length ≤ 1048576) (i h : Int) (hc : Cur b i) (n : Int) : ∃ x i' h', spec_l1Below.f b i h n = some (x, i', h') ∧ 0 ≤ x ∧ (x < n ∨ (n ≤ 0 ∧ x = 0)) ∧ Cur b i' := by
  unfold spec_l1Below.f
  by_cases h0 : n ≤ 0
  · rw [if_pos h0]; exact ⟨0, i, h, rfl, by omega, .inr ⟨h0, rfl⟩, hc⟩
  · rw [if_neg h0]
    by_cases h1 : n ≤ 256
    · obtain ⟨x, i1, k1, e, g1, g2, g3⟩ := l1Byte_eq b hb i h hc
      rw [if_pos h1, e, Option.bind_some, if_neg (by omega)]
      simp only []
      rw [tmod_nn _ _ g1]
      exact ⟨_, i1, k1, rfl, Int.emod_nonneg _ (by omega), .inl (Int.emod_lt_of_pos _ (by omega)), g3⟩
    · obtain ⟨x, i1, k1, e, g1, g2, g3⟩ := l1Byte_eq b hb i h hc
      obtain ⟨y, i2, k2, e2, p1, p2, p3⟩ := l1Byte_eq b hb i1 k1 g3
      obtain ⟨z, i3, k3, e3, q1, q2, q3⟩ := l1Byte_eq b hb i2 k2 p3
      rw [if_neg h1, e, Option.bind_some]
      simp only []
      rw [e2, Option.bind_some]
      simp only []
      rw [e3, Option.bind_some, if_neg (by omega)]
      simp only []
      rw [wr (i := x * 65536) (by omega) (by omega), wr (i := y * 256) (by omega) (by omega), wr (i := x * 65536 + _) (by omega) (by omega), wr (by omega) (by omega), tmod_nn _ _ (by omega)]
      exact ⟨_, i3, k3, rfl, Int.emod_nonneg _ (by omega), .inl (Int.emod_lt_of_pos _ (by omega)), q3⟩
theorem l1Int_eq (b : List Int) (hb : b.length ≤ 1048576) (c h : Int) (hc : Cur b c) (l : List Int) (h0 : 0 < l.length) : ∃ x c' h', spec_l1Int.f b c h l = some (x, c', h') ∧ x ∈ l ∧ Cur b c' := by
  unfold spec_l1Int.f
  obtain ⟨x, i1, k1, e, g1, g2, g3⟩ := l1Below_eq b hb c h hc (l.length : Int)
  rw [e, Option.bind_some]
  simp only []
  rw [if_pos g1, if_pos (by omega)]
  refine ⟨_, i1, k1, rfl, ?_, g3⟩
  have := rd_nat l x.toNat (by omega)
  rw [show ((x.toNat : Nat) : Int) = x by omega] at this
  rw [this]; exact List.getElem_mem _
theorem l1Once_eq (b : List Int) (hb : b.length ≤ 1048576) (c h : Int) (hc : Cur b c) (n : Int) : ∃ (x : Bool) (c' h' : Int), spec_l1Once.f b c h n = some (x, c', h') ∧ Cur b c' := by
  unfold spec_l1Once.f
  obtain ⟨x, i1, k1, e, g1, g2, g3⟩ := l1Below_eq b hb c h hc n
  rw [e, Option.bind_some]
  exact ⟨_, i1, k1, rfl, g3⟩
theorem l3Word_eq (b : List Int) (hb : b.length ≤ 1048576) (c h : Int) (hc : Cur b c) : ∃ x c' h', spec_l3Word.f b c h = some (x, c', h') ∧ (-1 ≤ x ∧ x ≤ 2147483648) ∧ Cur b c' := by
  unfold spec_l3Word.f
  obtain ⟨x, i1, k1, e, g3⟩ := l1Once_eq b hb c h hc 10
  rw [e, Option.bind_some]; simp only []
  cases x with
  | true =>
    rw [if_pos rfl]
    obtain ⟨y, i2, k2, e2, p1, p3⟩ := l1Int_eq b hb i1 k1 g3 [(-1), 2147483647, 2147483648] (by decide)
    rw [e2, Option.bind_some]
    refine ⟨y, i2, k2, rfl, ?_, p3⟩
    simp at p1; omega
  | false =>
    rw [if_neg (by simp)]
    obtain ⟨y, i2, k2, e2, p3⟩ := l1Once_eq b hb i1 k1 g3 4
    rw [e2, Option.bind_some]; simp only []
    cases y with
    | true =>
      rw [if_pos rfl]
      obtain ⟨z, i4, k4, e4, q1, q3⟩ := l1Int_eq b hb i2 k2 p3 [0, 1, 2147483646] (by decide)
      rw [e4, Option.bind_some]
      refine ⟨z, i4, k4, rfl, ?_, q3⟩
      simp at q1; omega
    | false =>
      rw [if_neg (by simp)]
      obtain ⟨y, i4, k4, e4, q1, q2, q3⟩ := l1Below_eq b hb i2 k2 p3 1000000
      rw [e4, Option.bind_some]; simp only []
      obtain ⟨z, i5, k5, e5, r1, r2, r3⟩ := l1Below_eq b hb i4 k4 q3 2000
      rw [e5, Option.bind_some]; simp only []
      have m0 := Int.mul_nonneg q1 r1
      have m1 : y * z ≤ 1000000 * 2000 := Int.mul_le_mul (by omega) (by omega) r1 (by omega)
      rw [wr (by omega) (by omega)]
      exact ⟨_, i5, k5, rfl, by omega, r3⟩
def pmod (a b : Int) : Int := if 1 ≤ b ∧ b ≤ 1000000000000 then a % b else 0
def hst (a v : Int) : Int := (a * 1000003 + v % 2147483647 + 13) % 2147483647
theorem hst_in (a v : Int) : 0 ≤ hst a v ∧ hst a v < 2147483647 := by unfold hst; omega
theorem pmod_M (v : Int) : pmod v 2147483647 = v % 2147483647 := by unfold pmod; rw [if_pos (by omega)]
theorem hst_body (a v : Int) (h0 : 0 ≤ a) (h1 : a < 2147483647) : Int.tmod (wrap64 ((wrap64 ((wrap64 (a * 1000003)) + v % 2147483647)) + 13)) 2147483647 = hst a v := by
  unfold hst
  rw [wr (i := a * 1000003) (by omega) (by omega), wr (i := a * 1000003 + _) (by omega) (by omega), wr (by omega) (by omega), tmod_nn _ _ (by omega)]
theorem drop_rd (l : List Int) (i : Nat) (h : i < l.length) : l.drop i = rd l i :: l.drop (i + 1) := by rw [rd_nat l i h]; exact List.drop_eq_getElem_cons h
theorem hfold_in (l : List Int) : ∀ a, 0 ≤ a → a < 2147483647 → 0 ≤ l.foldl hst a ∧ l.foldl hst a < 2147483647 := by
  induction l with
  | nil => exact fun a h h' => ⟨h, h'⟩
  | cons x l ih => exact fun a _ _ => ih _ (hst_in a x).1 (hst_in a x).2
theorem impl_InRange_eq (a b c : Int) : impl_InRange.f a b c = some (decide (b ≤ a ∧ a ≤ c)) := by
  unfold impl_InRange.f; by_cases h : b ≤ a <;> simp [h]
theorem impl_Mod_eq (a b : Int) : impl_Mod.f a b = some (pmod a b) := by
  unfold impl_Mod.f pmod
  rw [impl_InRange_eq]
  by_cases h : 1 ≤ b ∧ b ≤ 1000000000000
  · have h1 := Int.emod_nonneg a (show b ≠ 0 by omega)
    have h2 := Int.emod_lt_of_pos a (show 0 < b by omega)
    simp only [h, and_self, decide_true, Option.bind_some, if_true]
    rw [if_neg (by omega)]
    rcases tmod_cases a b (by omega) with ⟨h3, h4⟩ | ⟨h3, h4⟩
    · rw [if_neg (by omega), h4]
    · rw [if_pos h3, h4, wr (by omega) (by omega)]
  · simp [h]
theorem impl_fold_eq (a v : Int) (h0 : 0 ≤ a) (h1 : a < 2147483647) : impl_fold.f a v = some (hst a v) := by
  unfold impl_fold.f
  rw [impl_Mod_eq, pmod_M, Option.bind_some, hst_body a v h0 h1]
theorem impl_Hash_l (l : List Int) (hl : l.length ≤ 140737488351232) : ∀ (d k i : Nat) (a : Int), 0 ≤ a → a < 2147483647 → i + d = l.length → d < k → impl_Hash.l0 k a l (l.length : Int) i = some ((l.drop i).foldl hst a) := by
  intro d
  induction d with
  | zero =>
    intro k i a h0 h1 hd hk
    obtain ⟨k, rfl⟩ := rounds_succ hk
    simp only [impl_Hash.l0]; rw [if_neg (by omega), List.drop_eq_nil_of_le (by omega)]; rfl
  | succ d ih =>
    intro k i a h0 h1 hd hk
    obtain ⟨k, rfl⟩ := rounds_succ hk
    simp only [impl_Hash.l0]; rw [if_pos (by omega), if_pos (by omega), if_pos (by omega), impl_fold_eq a _ h0 h1, Option.bind_some, wrs (by omega), drop_rd l i (by omega)]
    exact ih k (i + 1) _ (hst_in _ _).1 (hst_in _ _).2 (by omega) (by omega)
theorem impl_Hash_eq (l : List Int) (hl : l.length ≤ 140737488351232) (k : Nat) (hk : l.length < k) : impl_Hash.f k l = some (l.foldl hst 11) := by
  have := impl_Hash_l l hl l.length k 0 11 (by omega) (by omega) (by omega) hk
  simpa [impl_Hash.f] using this
theorem bof_u8 (s : ByteArray) : ∀ x ∈ bytesOf s, (Lit.int .u8 x).wf = true := by
  intro x hx
  unfold bytesOf at hx
  obtain ⟨b, _, rfl⟩ := List.mem_map.1 hx
  have := b.toNat_lt
  simp [Lit.wf, IntKind.min, IntKind.max, IntKind.signed, IntKind.bits]; omega
theorem take_rd (l : List Int) (i : Nat) (h : i < l.length) : l.take (i + 1) = l.take i ++ [rd l i] := by rw [rd_nat l i h, List.take_add_one, List.getElem?_eq_getElem h]; rfl
theorem wrb (l : List Int) (hw : ∀ x ∈ l, (Lit.int .u8 x).wf = true) (i : Nat) (h : i < l.length) : 0 ≤ rd l i ∧ rd l i ≤ 255 := by
  rw [rd_nat l i h]; exact in_u8 (hw _ (List.getElem_mem h))
theorem impl_BI_l (l : List Int) (hl : l.length ≤ 1099511627776) (hw : ∀ x ∈ l, (Lit.int .u8 x).wf = true) : ∀ (d k i : Nat) (o : List Int), o = (l.length : Int) :: l.take i → i + d = l.length → d < k → impl_BytesToInts.l0 k o l (l.length : Int) i = some ((l.length : Int) :: l) := by
  intro d
  induction d with
  | zero =>
    intro k i o ho hd hk
    obtain ⟨k, rfl⟩ := rounds_succ hk
    simp only [impl_BytesToInts.l0]; rw [if_neg (by omega), ho, List.take_of_length_le (by omega)]
  | succ d ih =>
    intro k i o ho hd hk
    obtain ⟨k, rfl⟩ := rounds_succ hk
    have hb := wrb l hw i (by omega)
    simp only [impl_BytesToInts.l0]; rw [if_pos (by omega), if_pos (by omega), if_pos (by omega), if_pos (by rw [ho, List.length_cons, List.length_take]; omega), wrs (by omega), wr (i := rd l i) (by omega) (by omega)]
    exact ih k (i + 1) _ (by rw [ho, take_rd l i (by omega)]; rfl) (by omega) (by omega)
theorem impl_BI_eq (l : List Int) (hl : l.length ≤ 1099511627776) (hw : ∀ x ∈ l, (Lit.int .u8 x).wf = true) (k : Nat) (hk : l.length < k) : impl_BytesToInts.f k l = some ((l.length : Int) :: l) :=
  impl_BI_l l hl hw l.length k 0 _ rfl (by omega) hk
def khash (key : Int) (l : List Int) : Int := hst (l.foldl hst (hst 11 key)) key
theorem khash_in (key : Int) (l : List Int) : 0 ≤ khash key l ∧ khash key l < 2147483647 := hst_in _ _
theorem impl_KeyedHash_l (key : Int) (l : List Int) (hl : l.length ≤ 140737488351232) : ∀ (d k i : Nat) (a : Int), 0 ≤ a → a < 2147483647 → i + d = l.length → d < k → impl_KeyedHash.l0 k key a l (l.length : Int) i = some (hst ((l.drop i).foldl hst a) key) := by
  intro d
  induction d with
  | zero =>
    intro k i a h0 h1 hd hk
    obtain ⟨k, rfl⟩ := rounds_succ hk
    simp only [impl_KeyedHash.l0]; rw [if_neg (by omega), List.drop_eq_nil_of_le (by omega), impl_fold_eq a _ h0 h1]; rfl
  | succ d ih =>
    intro k i a h0 h1 hd hk
    obtain ⟨k, rfl⟩ := rounds_succ hk
    simp only [impl_KeyedHash.l0]; rw [if_pos (by omega), if_pos (by omega), if_pos (by omega), impl_fold_eq a _ h0 h1, Option.bind_some, wrs (by omega), drop_rd l i (by omega)]
    exact ih k (i + 1) _ (hst_in _ _).1 (hst_in _ _).2 (by omega) (by omega)
theorem impl_KeyedHash_eq (key : Int) (l : List Int) (hl : l.length ≤ 140737488351232) (k : Nat) (hk : l.length < k) : impl_KeyedHash.f k key l = some (khash key l) := by
  have := impl_KeyedHash_l key l hl l.length k 0 (hst 11 key) (hst_in _ _).1 (hst_in _ _).2 (by omega) hk
  unfold impl_KeyedHash.f
  rw [impl_fold_eq 11 key (by omega) (by omega), Option.bind_some]
  simpa [khash] using this
def dkey (key : Int) (s : ByteArray) : Int := if khash key (((bytesOf s).length : Int) :: bytesOf s) = 0 then 1 else khash key (((bytesOf s).length : Int) :: bytesOf s)
theorem dkey_in (key : Int) (s : ByteArray) : 1 ≤ dkey key s ∧ dkey key s ≤ 2147483646 := by
  have := khash_in key (((bytesOf s).length : Int) :: bytesOf s)
  unfold dkey; split <;> omega
theorem impl_DS_eq (key : Int) (s : ByteArray) (hs : s.size ≤ 1048576) (k : Nat) (hk : s.size + 5 < k) : impl_DeriveFromString.f k key s = some (dkey key s) := by
  have hl := bytesOf_length s
  unfold impl_DeriveFromString.f dkey
  rw [if_pos hs, impl_BI_eq (bytesOf s) (by omega) (bof_u8 s) k (by omega), Option.bind_some, impl_KeyedHash_eq key _ (by simp; omega) k (by simp; omega), Option.bind_some]
  split <;> rfl
theorem spec_l1In_eq (a b c : Int) : spec_l1In.f a b c = some (decide (b ≤ a ∧ a ≤ c)) := by
  unfold spec_l1In.f; by_cases h : b ≤ a <;> simp [h]
theorem spec_Mod_eq (a b : Int) : spec_Mod.f a b = some (pmod a b) := by
  unfold spec_Mod.f pmod
  rw [spec_l1In_eq]
  by_cases h : 1 ≤ b ∧ b ≤ 1000000000000
  · have h1 := Int.emod_nonneg a (show b ≠ 0 by omega)
    have h2 := Int.emod_lt_of_pos a (show 0 < b by omega)
    simp only [h, and_self, decide_true, Option.bind_some, if_true]
    rw [if_neg (by omega)]
    rcases tmod_cases a b (by omega) with ⟨h3, h4⟩ | ⟨h3, h4⟩
    · rw [h4, wr (by omega) (by omega), tmod_nn _ _ (by omega), Int.add_emod_right, Int.emod_emod_of_dvd _ (Int.dvd_refl b)]
    · rw [h4, wr (by omega) (by omega), tmod_nn _ _ (by omega), Int.emod_emod_of_dvd _ (Int.dvd_refl b)]
  · simp [h]
theorem at_eq (b : List Int) (hb : b.length ≤ 1048576) (hw : ∀ x ∈ b, (Lit.int .u8 x).wf = true) (i : Int) (h0 : 0 ≤ i) (h1 : i ≤ 100) : ∃ x, laws_at.f b i = some x ∧ 0 ≤ x ∧ x ≤ 255 := by
  unfold laws_at.f
  by_cases h : i < (b.length : Int)
  · have := wrb b hw i.toNat (by omega)
    rw [show ((i.toNat : Nat) : Int) = i by omega] at this
    rw [if_pos h, if_pos h0, wr (by omega) (by omega)]
    exact ⟨_, rfl, this⟩
  · rw [if_neg h, wr (i := i * 31) (by omega) (by omega), wr (i := (b.length : Int) * 7) (by omega) (by omega), wr (by omega) (by omega), tmod_nn _ _ (by omega)]
    exact ⟨_, rfl, by omega, by omega⟩
theorem gcd_one : Int.gcd 2147483647 1000003 = 1 := by decide +kernel
theorem inv_a (d : Int) (h : (2147483647 : Int) ∣ 1000003 * d) (l : -2147483647 < d) (u : d < 2147483647) : d = 0 := by
  have h3 := Int.dvd_gcd_mul_iff_dvd_mul.2 h
  rw [gcd_one] at h3
  clear h
  obtain ⟨q, hq⟩ := h3
  omega
theorem hst_w (a b w : Int) (h : (a * 1000003 + w + 13) % 2147483647 = (b * 1000003 + w + 13) % 2147483647) (a0 : 0 ≤ a) (a1 : a < 2147483647) (b0 : 0 ≤ b) (b1 : b < 2147483647)  : a = b := by
  have h1 := Int.dvd_of_emod_eq_zero (Int.emod_eq_emod_iff_emod_sub_eq_zero.1 h)
  clear h
  have e : a * 1000003 + w + 13 - (b * 1000003 + w + 13) = 1000003 * (a - b) := by omega
  rw [e] at h1
  have := inv_a (a - b) h1 (by clear h1 e; omega) (by clear h1 e; omega)
  clear h1 e
  omega
theorem hst_a (a b v : Int) (a0 : 0 ≤ a) (a1 : a < 2147483647) (b0 : 0 ≤ b) (b1 : b < 2147483647) (h : hst a v = hst b v) : a = b := by
  unfold hst at h
  exact hst_w a b (v % 2147483647) h a0 a1 b0 b1
theorem hst_v (a v w : Int) (h : hst a v = hst a w) : v % 2147483647 = w % 2147483647 := by
  unfold hst at h
  omega
theorem hfold_a (l : List Int) : ∀ a b, 0 ≤ a → a < 2147483647 → 0 ≤ b → b < 2147483647 → l.foldl hst a = l.foldl hst b → a = b := by
  induction l with
  | nil => intro a b _ _ _ _ h; exact h
  | cons x l ih =>
    intro a b a0 a1 b0 b1 h
    have h1 := hst_in a x
    have h2 := hst_in b x
    exact hst_a a b x a0 a1 b0 b1 (ih _ _ h1.1 h1.2 h2.1 h2.2 h)
theorem khash_set (key : Int) (l : List Int) (i : Nat) (hi : i < l.length) (v : Int) (hv : v % 2147483647 ≠ (rd l (i : Int)) % 2147483647) : khash key (l.set i v) ≠ khash key l := by
  intro h
  unfold khash at h
  rw [List.set_eq_take_append_cons_drop, if_pos hi] at h
  have e : l = l.take i ++ rd l (i : Int) :: l.drop (i + 1) := by rw [← drop_rd l i hi, List.take_append_drop]
  have h0 := hst_in 11 key
  generalize hst 11 key = s at h h0
  have hL : l.foldl hst s = (l.drop (i + 1)).foldl hst (hst ((l.take i).foldl hst s) (rd l (i : Int))) := by
    conv => lhs; rw [e]
    rw [List.foldl_append, List.foldl_cons]
  rw [hL, List.foldl_append, List.foldl_cons] at h
  have g := hst_in ((l.take i).foldl hst s) v
  have g' := hst_in ((l.take i).foldl hst s) (rd l (i : Int))
  have p := hfold_in (l.drop (i + 1)) _ g.1 g.2
  have p' := hfold_in (l.drop (i + 1)) _ g'.1 g'.2
  have q := hfold_a _ _ _ g.1 g.2 g'.1 g'.2 (hst_a _ _ key p.1 p.2 p'.1 p'.2 h)
  exact hv (hst_v _ _ _ q)
theorem l3Ws_l (b : List Int) (hb : b.length ≤ 1048576) : ∀ (d k : Nat) (o : List Int) (c h : Int), Cur b c → o.length + d ≤ 100 → (∀ x ∈ o, -1 ≤ x ∧ x ≤ 2147483648) → d < k → ∃ l c' h', spec_l3Words.l0 k o d b c h = some (l, c', h') ∧ l.length ≤ 100 ∧ (∀ x ∈ l, -1 ≤ x ∧ x ≤ 2147483648) ∧ Cur b c' := by
  intro d
  induction d with
  | zero =>
    intro k o c h hc ho hw hk
    obtain ⟨k, rfl⟩ := rounds_succ hk
    simp only [spec_l3Words.l0]; rw [if_neg (by omega)]
    exact ⟨o, c, h, rfl, by omega, hw, hc⟩
  | succ d ih =>
    intro k o c h hc ho hw hk
    obtain ⟨k, rfl⟩ := rounds_succ hk
    simp only [spec_l3Words.l0]; rw [if_pos (by omega)]
    obtain ⟨x, i1, k1, e1, g1, g3⟩ := l3Word_eq b hb c h hc
    rw [e1, Option.bind_some]; simp only []
    rw [if_pos (by omega), show wrap64 (((d + 1 : Nat) : Int) - 1) = (d : Int) by rw [wr (by omega) (by omega)]; omega]
    exact ih k _ i1 k1 g3 (by rw [List.length_append, List.length_singleton]; omega) (fun y hy => by
      rcases List.mem_append.1 hy with hy | hy
      · exact hw y hy
      · rw [List.mem_singleton.1 hy]; exact g1) (by omega)
theorem dKH (b : List Int) (hb : b.length ≤ 1048576) (k : Nat) (hk : b.length + 200 < k) : ∃ (key : Int) (l : List Int), spec_DrawKeyedHash.f k b = some (key, l) ∧ l.length ≤ 100 ∧ (∀ x ∈ l, -1 ≤ x ∧ x ≤ 2147483648) := by
  unfold spec_DrawKeyedHash.f
  obtain ⟨h0, e0⟩ := l1New_eq b hb k (by omega)
  have c0 : Cur b 0 := by unfold Cur; omega
  rw [e0, Option.bind_some]; simp only []
  obtain ⟨key, i1, k1, e1, g1, g3⟩ := l3Word_eq b hb 0 h0 c0
  rw [e1, Option.bind_some]; simp only []
  unfold spec_l3Words.f
  obtain ⟨m, i2, k2, e2, p1, p2, p3⟩ := l1Below_eq b hb i1 k1 g3 5
  rw [e2, Option.bind_some]; simp only []
  obtain ⟨l, i3, k3, e3, q1, q2, q3⟩ := l3Ws_l b hb m.toNat k [] i2 k2 p3 (by simp; omega) (fun x hx => by cases hx) (by omega)
  rw [show ((m.toNat : Nat) : Int) = m by omega] at e3
  rw [e3, Option.bind_some]
  exact ⟨key, l, rfl, q1, q2⟩
theorem l1Str_eq (b : List Int) (hb : b.length ≤ 1048576) (c h : Int) (hc : Cur b c) (l : List ByteArray) (h0 : 0 < l.length) : ∃ x c' h', spec_l1Str.f b c h l = some (x, c', h') ∧ x ∈ l ∧ Cur b c' := by
  unfold spec_l1Str.f
  obtain ⟨x, i1, k1, e, g1, g2, g3⟩ := l1Below_eq b hb c h hc (l.length : Int)
  rw [e, Option.bind_some]
  simp only []
  rw [if_pos g1, if_pos (by omega)]
  refine ⟨_, i1, k1, rfl, ?_, g3⟩
  unfold rdOf
  rw [List.getD_eq_getElem?_getD, List.getElem?_eq_getElem (show x.toNat < l.length by omega)]
  exact List.getElem_mem _
theorem dDS (b : List Int) (hb : b.length ≤ 1048576) (k : Nat) (hk : b.length + 200 < k) : ∃ (key : Int) (s : ByteArray), spec_DrawDeriveFromString.f k b = some (key, s) ∧ s.size ≤ 10 := by
  unfold spec_DrawDeriveFromString.f
  obtain ⟨h0, e0⟩ := l1New_eq b hb k (by omega)
  have c0 : Cur b 0 := by unfold Cur; omega
  rw [e0, Option.bind_some]; simp only []
  obtain ⟨key, i1, k1, e1, g1, g3⟩ := l3Word_eq b hb 0 h0 c0
  rw [e1, Option.bind_some]; simp only []
  obtain ⟨s, i2, k2, e2, p1, p3⟩ := l1Str_eq b hb i1 k1 g3 [(⟨#[]⟩ : ByteArray), (⟨#[97]⟩ : ByteArray), (⟨#[98]⟩ : ByteArray), (⟨#[97, 98]⟩ : ByteArray), (⟨#[110, 101, 119, 115]⟩ : ByteArray), (⟨#[120]⟩ : ByteArray)] (by simp)
  rw [e2, Option.bind_some]
  refine ⟨key, s, rfl, ?_⟩
  simp only [List.mem_cons, List.not_mem_nil, or_false] at p1
  rcases p1 with rfl | rfl | rfl | rfl | rfl | rfl <;> simp [ByteArray.size]
theorem tail_ok (b : List Int) (hb : b.length ≤ 1048576) (k : Nat) (hk : b.length + 200 < k) : ((spec_DrawDeriveFromString.f k b).bind fun x => (impl_DeriveFromString.f k x.1 x.2).bind fun t => (impl_IsValidKey.f t).bind fun u => some u) = some true := by
  obtain ⟨key, s, e, hs⟩ := dDS b hb k hk
  have hd := dkey_in key s
  rw [e, Option.bind_some]; simp only []
  rw [impl_DS_eq key s (by omega) k (by omega), Option.bind_some]
  unfold impl_IsValidKey.f
  rw [impl_InRange_eq, Option.bind_some, Option.bind_some]
  simp [hd]
theorem FnKeyedHash : laws_FnKeyedHash.Pure := by
  intro b _ _ hw
  obtain ⟨K, hK⟩ : ∃ K, K = b.length + 400 := ⟨_, rfl⟩
  refine ⟨K + 1, ?_⟩
  unfold laws_FnKeyedHash.f laws_big.f
  rw [Option.bind_some]
  by_cases hb : b.length ≤ 1048576
  · rw [if_neg (by simp; omega)]
    obtain ⟨key, l, e0, hl, hv⟩ := dKH b hb (K + 1) (by omega)
    have hh := khash_in key l
    rw [e0, Option.bind_some]; simp only []
    rw [impl_KeyedHash_eq key l (by omega) _ (by omega), Option.bind_some, if_neg (by omega), if_neg (by omega), Option.bind_some, if_pos (by simp; omega), Option.bind_some, if_pos (by simp; omega), impl_Hash_eq _ (by simp; omega) _ (by simp; omega), Option.bind_some]
    have eh : ([key] ++ l ++ [key]).foldl hst 11 = khash key l := by simp [khash]
    rw [eh]
    have ht := tail_ok b hb K (by omega)
    simp only [laws_FnKeyedHash.j0, bne_self_eq_false]
    rw [if_neg (by simp)]
    by_cases h0 : (l.length : Int) > 0
    · rw [if_pos h0, Option.bind_some, if_pos (by simp; omega), Option.bind_some]
      obtain ⟨x, ex, x0, x1⟩ := at_eq b hb hw 0 (by omega) (by omega)
      obtain ⟨y, ey, y0, y1⟩ := at_eq b hb hw 1 (by omega) (by omega)
      simp only [List.nil_append]
      rw [ex, Option.bind_some, if_neg (by omega), tmod_nn _ _ x0]
      have m0 := Int.emod_nonneg x (show (l.length : Int) ≠ 0 by omega)
      have m1 := Int.emod_lt_of_pos x h0
      generalize x % (l.length : Int) = i at m0 m1
      rw [if_pos m0, if_pos m1, ey, Option.bind_some]
      have hvi := hv (rd l i) (by
        have := rd_nat l i.toNat (by omega)
        rw [show ((i.toNat : Nat) : Int) = i by omega] at this
        rw [this]; exact List.getElem_mem _)
      rw [wr (i := rd l i + 1) (by omega) (by omega), wr (i := rd l i + 1 + y) (by omega) (by omega), spec_Mod_eq, Option.bind_some, pmod_M, impl_KeyedHash_eq key _ (by simp; omega) _ (by simp; omega), Option.bind_some]
      have hne := khash_set key l i.toNat (by omega) ((rd l i + 1 + y) % 2147483647) (by
        rw [show ((i.toNat : Nat) : Int) = i by omega]; omega)
      rw [if_neg hne]
      exact ht
    · rw [if_neg h0]
      exact ht
  · rw [if_pos (by simp; omega)]
end Go.Proofs.Ytdoackhmdcpfaaa.Pure
