/- Decryption inverts encryption, and encryption inverts decryption, for all inputs of the law. Conditions: none. -/
import Derived.Test.YtdoackhmdcpfaaaGFnCipherx2
import Derived.OpenShut
namespace Go.Proofs.Ytdoackhmdcpfaaa.Pure
open Go.RowKit Go.Proofs.Ytdoackhmdcpfaaa.GFnCipher Go.Proofs.YtdoackhmdcpfaaaW.PrintWords Go.Proofs.YtdoackhmdcpfaaaW.PrintLast
theorem wr {i : Int} (h0 : -9223372036854775808 ≤ i) (h : i ≤ 9223372036854775807) : wrap64 i = i := by unfold wrap64; omega
theorem wrs {i : Nat} (h : i < 9223372036854775807) : wrap64 ((i : Int) + 1) = ((i + 1 : Nat) : Int) := by unfold wrap64; omega
theorem rd_nat (l : List Int) (i : Nat) (h : i < l.length) : rd l (i : Int) = l[i] := by simp [rd, h]
theorem rd_some (l : List Int) (i : Nat) (h : i < l.length) : l[i]? = some (rd l (i : Int)) := by rw [rd_nat l i h, List.getElem?_eq_getElem h]
theorem rounds_succ {d k : Nat} (h : d < k) : ∃ m, k = m + 1 := ⟨k - 1, by omega⟩
theorem laws_sameBytes_l (a b : List Int) (hl : a.length ≤ 1099511627776) (hab : a.length = b.length) : ∀ (d k i : Nat), (∀ j, j < i → a[j]? = b[j]?) → i + d = a.length → d < k → laws_sameBytes.l0 k a b i = some (decide (a = b)) := by
  intro d
  induction d with
  | zero =>
    intro k i hp hd hk
    obtain ⟨k, rfl⟩ := rounds_succ hk
    simp only [laws_sameBytes.l0]; rw [if_neg (by omega)]
    have : a = b := by
      refine List.ext_getElem? fun j => ?_
      by_cases hj : j < i
      · exact hp j hj
      · rw [List.getElem?_eq_none (by omega), List.getElem?_eq_none (by omega)]
    simp [this]
  | succ d ih =>
    intro k i hp hd hk
    obtain ⟨k, rfl⟩ := rounds_succ hk
    simp only [laws_sameBytes.l0]; rw [if_pos (by omega), if_pos (by omega), if_pos (by omega)]
    by_cases e : rd a i = rd b i
    · rw [if_pos e, wrs (by omega)]
      refine ih k (i + 1) ?_ (by omega) (by omega)
      intro j hj
      by_cases e' : j = i
      · subst e'; rw [rd_some a j (by omega), rd_some b j (by omega), e]
      · exact hp j (by omega)
    · rw [if_neg e]
      have : ¬ a = b := fun h => e (by rw [h])
      simp [this]
theorem laws_sameBytes_eq (a b : List Int) (hl : a.length ≤ 1099511627776) (k : Nat) (hk : a.length < k) : laws_sameBytes.f k a b = some (decide (a = b)) := by
  unfold laws_sameBytes.f
  by_cases h : a.length = b.length
  · rw [if_pos (by omega)]
    exact laws_sameBytes_l a b hl h a.length k 0 (fun j hj => by omega) (by omega) hk
  · rw [if_neg (by omega)]
    have : ¬ a = b := fun e => h (by rw [e])
    simp [this]
theorem in_i64 {n : Int} (h : (Lit.int .i64 n).wf = true) : -9223372036854775808 ≤ n ∧ n ≤ 9223372036854775807 := bounds_i64 h
theorem in_u8 {n : Int} (h : (Lit.int .u8 n).wf = true) : 0 ≤ n ∧ n ≤ 255 := bounds_u8 h
theorem tmod_cases (a b : Int) (hb : 0 < b) : (0 ≤ a.tmod b ∧ a.tmod b = a % b) ∨ (a.tmod b < 0 ∧ a.tmod b + b = a % b) := by
  have h1 := Int.emod_nonneg a (show b ≠ 0 by omega)
  have h2 := Int.emod_lt_of_pos a hb
  rw [Int.tmod_eq_emod]
  split
  · left; omega
  · rename_i hn
    have : a % b ≠ 0 := fun e => hn (.inr (Int.dvd_of_emod_eq_zero e))
    right; omega
theorem tmod_nn (a b : Int) (ha : 0 ≤ a) : a.tmod b = a % b := by rw [Int.tmod_eq_emod, if_pos (.inl ha)]; omega
theorem and255 (y : Int) : 0 ≤ Go.bits .and .i64 y 255 ∧ Go.bits .and .i64 y 255 ≤ 255 := by
  have h : ((BitVec.ofInt 64 y &&& BitVec.ofInt 64 255).toNat) ≤ 255 := by
    rw [BitVec.toNat_and]
    exact Nat.and_le_right
  have e : Go.bits .and .i64 y 255 = IntKind.i64.wrap ((BitVec.ofInt 64 y &&& BitVec.ofInt 64 255).toNat : Int) := rfl
  rw [e]
  generalize (BitVec.ofInt 64 y &&& BitVec.ofInt 64 255).toNat = m at h
  rw [IntKind.wrap_i64]; omega
theorem l1New_l (b : List Int) (_hb : b.length ≤ 1048576) : ∀ (d k i : Nat) (h : Int), i + d = b.length → d < k → ∃ h', spec_l1New.l0 k b h i = some (b, 0, h') := by
  intro d
  induction d with
  | zero =>
    intro k i h hd hk
    obtain ⟨k, rfl⟩ := rounds_succ hk
    simp only [spec_l1New.l0]; rw [if_neg (by omega)]
    exact ⟨h, rfl⟩
  | succ d ih =>
    intro k i h hd hk
    obtain ⟨k, rfl⟩ := rounds_succ hk
    simp only [spec_l1New.l0]; rw [if_pos (by omega)]
    by_cases h4 : (i : Int) < 4000
    · rw [if_pos h4, if_pos (by omega), wrs (by omega)]
      exact ih k (i + 1) _ (by omega) (by omega)
    · rw [if_neg h4]
      exact ⟨h, rfl⟩
theorem l1New_eq (b : List Int) (hb : b.length ≤ 1048576) (k : Nat) (hk : b.length < k) : ∃ h', spec_l1New.f k b = some (b, 0, h') :=
  l1New_l b hb b.length k 0 _ (by omega) hk
def Cur (b : List Int) (i : Int) : Prop := 0 ≤ i ∧ i ≤ (b.length : Int)
theorem l1Byte_eq (b : List Int) (hb : b.length ≤ 1048576) (i h : Int) (hc : Cur b i) : ∃ x i' h', spec_l1Byte.f b i h = some (x, i', h') ∧ 0 ≤ x ∧ x ≤ 255 ∧ Cur b i' := by
  unfold Cur at *
  unfold spec_l1Byte.f
  by_cases h1 : i < (b.length : Int)
  · rw [if_pos h1, if_pos hc.1]
    exact ⟨_, _, _, rfl, (and255 _).1, (and255 _).2, by rw [wr (by omega) (by omega)]; omega⟩
  · rw [if_neg h1]
    exact ⟨_, _, _, rfl, (and255 _).1, (and255 _).2, hc⟩
theorem l1Below_eq (b : List Int) (hb : b.length ≤ 1048576) (i h : Int) (hc : Cur b i) (n : Int) : ∃ x i' h', spec_l1Below.f b i h n = some (x, i', h') ∧ 0 ≤ x ∧ (x < n ∨ (n ≤ 0 ∧ x = 0)) ∧ Cur b i' := by
  unfold spec_l1Below.f
  by_cases h0 : n ≤ 0
  · rw [if_pos h0]; exact ⟨0, i, h, rfl, by omega, .inr ⟨h0, rfl⟩, hc⟩
  · rw [if_neg h0]
    by_cases h1 : n ≤ 256
    · obtain ⟨x, i1, k1, e, g1, g2, g3⟩ := l1Byte_eq b hb i h hc
      rw [if_pos h1, e, Option.bind_some, if_neg (by omega)]
      simp only []
      rw [tmod_nn _ _ g1]
      exact ⟨_, i1, k1, rfl, Int.emod_nonneg _ (by omega), .inl (Int.emod_lt_of_pos _ (by omega)), g3⟩
    · obtain ⟨x, i1, k1, e, g1, g2, g3⟩ := l1Byte_eq b hb i h hc
      obtain ⟨y, i2, k2, e2, p1, p2, p3⟩ := l1Byte_eq b hb i1 k1 g3
      obtain ⟨z, i3, k3, e3, q1, q2, q3⟩ := l1Byte_eq b hb i2 k2 p3
      rw [if_neg h1, e, Option.bind_some]
      simp only []
      rw [e2, Option.bind_some]
      simp only []
      rw [e3, Option.bind_some, if_neg (by omega)]
      simp only []
      rw [wr (i := x * 65536) (by omega) (by omega), wr (i := y * 256) (by omega) (by omega), wr (i := x * 65536 + _) (by omega) (by omega), wr (by omega) (by omega), tmod_nn _ _ (by omega)]
      exact ⟨_, i3, k3, rfl, Int.emod_nonneg _ (by omega), .inl (Int.emod_lt_of_pos _ (by omega)), q3⟩
theorem l1Int_eq (b : List Int) (hb : b.length ≤ 1048576) (c h : Int) (hc : Cur b c) (l : List Int) (h0 : 0 < l.length) : ∃ x c' h', spec_l1Int.f b c h l = some (x, c', h') ∧ x ∈ l ∧ Cur b c' := by
  unfold spec_l1Int.f
  obtain ⟨x, i1, k1, e, g1, g2, g3⟩ := l1Below_eq b hb c h hc (l.length : Int)
  rw [e, Option.bind_some]
  simp only []
  rw [if_pos g1, if_pos (by omega)]
  refine ⟨_, i1, k1, rfl, ?_, g3⟩
  have := rd_nat l x.toNat (by omega)
  rw [show ((x.toNat : Nat) : Int) = x by omega] at this
  rw [this]; exact List.getElem_mem _
theorem l1Once_eq (b : List Int) (hb : b.length ≤ 1048576) (c h : Int) (hc : Cur b c) (n : Int) : ∃ (x : Bool) (c' h' : Int), spec_l1Once.f b c h n = some (x, c', h') ∧ Cur b c' := by
  unfold spec_l1Once.f
  obtain ⟨x, i1, k1, e, g1, g2, g3⟩ := l1Below_eq b hb c h hc n
  rw [e, Option.bind_some]
  exact ⟨_, i1, k1, rfl, g3⟩
theorem l3Word_eq (b : List Int) (hb : b.length ≤ 1048576) (c h : Int) (hc : Cur b c) : ∃ x c' h', spec_l3Word.f b c h = some (x, c', h') ∧ (-1 ≤ x ∧ x ≤ 2147483648) ∧ Cur b c' := by
  unfold spec_l3Word.f
  obtain ⟨x, i1, k1, e, g3⟩ := l1Once_eq b hb c h hc 10
  rw [e, Option.bind_some]; simp only []
  cases x with
  | true =>
    rw [if_pos rfl]
    obtain ⟨y, i2, k2, e2, p1, p3⟩ := l1Int_eq b hb i1 k1 g3 [(-1), 2147483647, 2147483648] (by decide)
    rw [e2, Option.bind_some]
    refine ⟨y, i2, k2, rfl, ?_, p3⟩
    simp at p1; omega
  | false =>
    rw [if_neg (by simp)]
    obtain ⟨y, i2, k2, e2, p3⟩ := l1Once_eq b hb i1 k1 g3 4
    rw [e2, Option.bind_some]; simp only []
    cases y with
    | true =>
      rw [if_pos rfl]
      obtain ⟨z, i4, k4, e4, q1, q3⟩ := l1Int_eq b hb i2 k2 p3 [0, 1, 2147483646] (by decide)
      rw [e4, Option.bind_some]
      refine ⟨z, i4, k4, rfl, ?_, q3⟩
      simp at q1; omega
    | false =>
      rw [if_neg (by simp)]
      obtain ⟨y, i4, k4, e4, q1, q2, q3⟩ := l1Below_eq b hb i2 k2 p3 1000000
      rw [e4, Option.bind_some]; simp only []
      obtain ⟨z, i5, k5, e5, r1, r2, r3⟩ := l1Below_eq b hb i4 k4 q3 2000
      rw [e5, Option.bind_some]; simp only []
      have m0 := Int.mul_nonneg q1 r1
      have m1 : y * z ≤ 1000000 * 2000 := Int.mul_le_mul (by omega) (by omega) r1 (by omega)
      rw [wr (by omega) (by omega)]
      exact ⟨_, i5, k5, rfl, by omega, r3⟩
theorem l1Bytes_l (b : List Int) (hb : b.length ≤ 1048576) (n : Int) (hn : n ≤ 1048576) : ∀ (d k i : Nat) (o : List Int) (c h : Int), Cur b c → (i : Int) + d = n ∨ (d = 0 ∧ n ≤ i) → o.length = i → (∀ x ∈ o, 0 ≤ x ∧ x ≤ 255) → d < k → ∃ l c' h', spec_l1Bytes.l0 k n o i b c h = some (l, c', h') ∧ l.length = i + d ∧ (∀ x ∈ l, 0 ≤ x ∧ x ≤ 255) ∧ Cur b c' := by
  intro d
  induction d with
  | zero =>
    intro k i o c h hc hd ho hw hk
    obtain ⟨k, rfl⟩ := rounds_succ hk
    simp only [spec_l1Bytes.l0]; rw [if_neg (by omega)]
    exact ⟨o, c, h, rfl, by omega, hw, hc⟩
  | succ d ih =>
    intro k i o c h hc hd ho hw hk
    obtain ⟨k, rfl⟩ := rounds_succ hk
    obtain ⟨x, c1, h1, e, g1, g2, g3⟩ := l1Byte_eq b hb c h hc
    simp only [spec_l1Bytes.l0]; rw [if_pos (by omega), e, Option.bind_some, if_pos (by omega), wrs (by omega)]
    obtain ⟨l, c2, h2, e2, p1, p2, p3⟩ := ih k (i + 1) (o ++ [x % 256]) c1 h1 g3 (by omega) (by simp [ho]) (fun y hy => by
      rcases List.mem_append.1 hy with hy | hy
      · exact hw y hy
      · rw [List.mem_singleton.1 hy]; omega) (by omega)
    exact ⟨l, c2, h2, e2, by omega, p2, p3⟩
theorem l1Bytes_eq (b : List Int) (hb : b.length ≤ 1048576) (n : Int) (hn : n ≤ 1048576) (c h : Int) (hc : Cur b c) (k : Nat) (hk : n.toNat < k) : ∃ l c' h', spec_l1Bytes.f k b c h n = some (l, c', h') ∧ l.length = n.toNat ∧ (∀ x ∈ l, 0 ≤ x ∧ x ≤ 255) ∧ Cur b c' := by
  obtain ⟨l, c', h', e, h1, h2, h3⟩ := l1Bytes_l b hb n hn n.toNat k 0 [] c h hc (by omega) rfl (fun x hx => by cases hx) hk
  exact ⟨l, c', h', e, by omega, h2, h3⟩
def pmod (a b : Int) : Int := if 1 ≤ b ∧ b ≤ 1000000000000 then a % b else 0
def hst (a v : Int) : Int := (a * 1000003 + v % 2147483647 + 13) % 2147483647
theorem hst_in (a v : Int) : 0 ≤ hst a v ∧ hst a v < 2147483647 := by unfold hst; omega
theorem pmod_M (v : Int) : pmod v 2147483647 = v % 2147483647 := by unfold pmod; rw [if_pos (by omega)]
theorem hst_body (a v : Int) (h0 : 0 ≤ a) (h1 : a < 2147483647) : Int.tmod (wrap64 ((wrap64 ((wrap64 (a * 1000003)) + v % 2147483647)) + 13)) 2147483647 = hst a v := by
  unfold hst
  rw [wr (i := a * 1000003) (by omega) (by omega), wr (i := a * 1000003 + _) (by omega) (by omega), wr (by omega) (by omega), tmod_nn _ _ (by omega)]
theorem drop_rd (l : List Int) (i : Nat) (h : i < l.length) : l.drop i = rd l i :: l.drop (i + 1) := by rw [rd_nat l i h]; exact List.drop_eq_getElem_cons h
theorem hfold_in (l : List Int) : ∀ a, 0 ≤ a → a < 2147483647 → 0 ≤ l.foldl hst a ∧ l.foldl hst a < 2147483647 := by
  induction l with
  | nil => exact fun a h h' => ⟨h, h'⟩
  | cons x l ih => exact fun a _ _ => ih _ (hst_in a x).1 (hst_in a x).2
theorem impl_InRange_eq (a b c : Int) : impl_InRange.f a b c = some (decide (b ≤ a ∧ a ≤ c)) := by
  unfold impl_InRange.f; by_cases h : b ≤ a <;> simp [h]
theorem impl_Mod_eq (a b : Int) : impl_Mod.f a b = some (pmod a b) := by
  unfold impl_Mod.f pmod
  rw [impl_InRange_eq]
  by_cases h : 1 ≤ b ∧ b ≤ 1000000000000
  · have h1 := Int.emod_nonneg a (show b ≠ 0 by omega)
    have h2 := Int.emod_lt_of_pos a (show 0 < b by omega)
    simp only [h, and_self, decide_true, Option.bind_some, if_true]
    rw [if_neg (by omega)]
    rcases tmod_cases a b (by omega) with ⟨h3, h4⟩ | ⟨h3, h4⟩
    · rw [if_neg (by omega), h4]
    · rw [if_pos h3, h4, wr (by omega) (by omega)]
  · simp [h]
theorem impl_fold_eq (a v : Int) (h0 : 0 ≤ a) (h1 : a < 2147483647) : impl_fold.f a v = some (hst a v) := by
  unfold impl_fold.f
  rw [impl_Mod_eq, pmod_M, Option.bind_some, hst_body a v h0 h1]
def khash (key : Int) (l : List Int) : Int := hst (l.foldl hst (hst 11 key)) key
theorem khash_in (key : Int) (l : List Int) : 0 ≤ khash key l ∧ khash key l < 2147483647 := hst_in _ _
theorem impl_KeyedHash_l (key : Int) (l : List Int) (hl : l.length ≤ 140737488351232) : ∀ (d k i : Nat) (a : Int), 0 ≤ a → a < 2147483647 → i + d = l.length → d < k → impl_KeyedHash.l0 k key a l (l.length : Int) i = some (hst ((l.drop i).foldl hst a) key) := by
  intro d
  induction d with
  | zero =>
    intro k i a h0 h1 hd hk
    obtain ⟨k, rfl⟩ := rounds_succ hk
    simp only [impl_KeyedHash.l0]; rw [if_neg (by omega), List.drop_eq_nil_of_le (by omega), impl_fold_eq a _ h0 h1]; rfl
  | succ d ih =>
    intro k i a h0 h1 hd hk
    obtain ⟨k, rfl⟩ := rounds_succ hk
    simp only [impl_KeyedHash.l0]; rw [if_pos (by omega), if_pos (by omega), if_pos (by omega), impl_fold_eq a _ h0 h1, Option.bind_some, wrs (by omega), drop_rd l i (by omega)]
    exact ih k (i + 1) _ (hst_in _ _).1 (hst_in _ _).2 (by omega) (by omega)
theorem impl_KeyedHash_eq (key : Int) (l : List Int) (hl : l.length ≤ 140737488351232) (k : Nat) (hk : l.length < k) : impl_KeyedHash.f k key l = some (khash key l) := by
  have := impl_KeyedHash_l key l hl l.length k 0 (hst 11 key) (hst_in _ _).1 (hst_in _ _).2 (by omega) hk
  unfold impl_KeyedHash.f
  rw [impl_fold_eq 11 key (by omega) (by omega), Option.bind_some]
  simpa [khash] using this
def encb (key : Int) (l : List Int) (j : Nat) : Int := (rd l j + khash key [(j : Int)]) % 256
def decb (key : Int) (l : List Int) (j : Nat) : Int := (rd l j - khash key [(j : Int)]) % 256
def encl (key : Int) (l : List Int) : List Int := (List.range l.length).map fun (j : Nat) => encb key l j
def decl (key : Int) (l : List Int) : List Int := (List.range l.length).map fun (j : Nat) => decb key l j
theorem encl_length (key : Int) (l : List Int) : (encl key l).length = l.length := by simp [encl]
theorem decl_length (key : Int) (l : List Int) : (decl key l).length = l.length := by simp [decl]
theorem impl_Encrypt_l (key : Int) (l : List Int) (hl : l.length ≤ 1099511627776) : ∀ (d k i : Nat) (o : List Int), o = (List.range i).map (fun (j : Nat) => encb key l j) → i + d = l.length → d + 5 < k → impl_Encrypt.l0 k key o l (l.length : Int) i = some (encl key l) := by
  intro d
  induction d with
  | zero =>
    intro k i o ho hd hk
    obtain ⟨k, rfl⟩ := rounds_succ hk
    simp only [impl_Encrypt.l0]; rw [if_neg (by omega), ho, show i = l.length by omega]; rfl
  | succ d ih =>
    intro k i o ho hd hk
    obtain ⟨k, rfl⟩ := rounds_succ hk
    simp only [impl_Encrypt.l0]; rw [if_pos (by omega), if_pos (by omega), if_pos (by omega), impl_KeyedHash_eq key [(i : Int)] (by simp) k (by simp; omega), Option.bind_some, if_pos (by rw [ho]; simp; omega), wrs (by omega)]
    exact ih k (i + 1) _ (by rw [ho, List.range_succ, List.map_append]; rfl) (by omega) (by omega)
theorem impl_Encrypt_eq (key : Int) (l : List Int) (hl : l.length ≤ 1099511627776) (k : Nat) (hk : l.length + 5 < k) : impl_Encrypt.f k key l = some (encl key l) :=
  impl_Encrypt_l key l hl l.length k 0 _ rfl (by omega) hk
theorem impl_Decrypt_l (key : Int) (l : List Int) (hl : l.length ≤ 1099511627776) : ∀ (d k i : Nat) (o : List Int), o = (List.range i).map (fun (j : Nat) => decb key l j) → i + d = l.length → d + 5 < k → impl_Decrypt.l0 k key o l (l.length : Int) i = some (decl key l) := by
  intro d
  induction d with
  | zero =>
    intro k i o ho hd hk
    obtain ⟨k, rfl⟩ := rounds_succ hk
    simp only [impl_Decrypt.l0]; rw [if_neg (by omega), ho, show i = l.length by omega]; rfl
  | succ d ih =>
    intro k i o ho hd hk
    obtain ⟨k, rfl⟩ := rounds_succ hk
    simp only [impl_Decrypt.l0]; rw [if_pos (by omega), if_pos (by omega), if_pos (by omega), impl_KeyedHash_eq key [(i : Int)] (by simp) k (by simp; omega), Option.bind_some, if_pos (by rw [ho]; simp; omega), wrs (by omega)]
    exact ih k (i + 1) _ (by rw [ho, List.range_succ, List.map_append]; rfl) (by omega) (by omega)
theorem impl_Decrypt_eq (key : Int) (l : List Int) (hl : l.length ≤ 1099511627776) (k : Nat) (hk : l.length + 5 < k) : impl_Decrypt.f k key l = some (decl key l) :=
  impl_Decrypt_l key l hl l.length k 0 _ rfl (by omega) hk
theorem map_rd (b : List Int) (f : Nat → Int) (h : ∀ j, j < b.length → f j = rd b (j : Int)) : (List.range b.length).map f = b := by
  apply List.ext_getElem (by simp)
  intro j h1 h2
  rw [List.getElem_map, List.getElem_range, h j h2, rd_nat b j h2]
theorem rd_map (n : Nat) (f : Nat → Int) (j : Nat) (h : j < n) : rd ((List.range n).map f) (j : Int) = f j := by
  rw [rd_nat _ j (by simpa using h)]; simp
theorem dec_enc (key : Int) (b : List Int) (hw : ∀ x ∈ b, 0 ≤ x ∧ x ≤ 255) : decl key (encl key b) = b := by
  unfold decl
  rw [encl_length]
  refine map_rd b _ fun j hj => ?_
  unfold decb
  have e : rd (encl key b) (j : Int) = encb key b j := rd_map _ _ j hj
  have hx := hw (rd b (j : Int)) (by rw [rd_nat b j hj]; exact List.getElem_mem _)
  rw [e]; unfold encb; omega
theorem enc_dec (key : Int) (b : List Int) (hw : ∀ x ∈ b, 0 ≤ x ∧ x ≤ 255) : encl key (decl key b) = b := by
  unfold encl
  rw [decl_length]
  refine map_rd b _ fun j hj => ?_
  unfold encb
  have e : rd (decl key b) (j : Int) = decb key b j := rd_map _ _ j hj
  have hx := hw (rd b (j : Int)) (by rw [rd_nat b j hj]; exact List.getElem_mem _)
  rw [e]; unfold decb; omega
theorem dEn (b : List Int) (hb : b.length ≤ 1048576) (k : Nat) (hk : b.length + 20 < k) : ∃ (key : Int) (l : List Int), spec_DrawEncrypt.f k b = some (key, l) ∧ l.length ≤ 8 ∧ (∀ x ∈ l, 0 ≤ x ∧ x ≤ 255) := by
  unfold spec_DrawEncrypt.f
  obtain ⟨h0, e0⟩ := l1New_eq b hb k (by omega)
  have c0 : Cur b 0 := by unfold Cur; omega
  rw [e0, Option.bind_some]; simp only []
  obtain ⟨key, i1, k1, e1, g1, g3⟩ := l3Word_eq b hb 0 h0 c0
  rw [e1, Option.bind_some]; simp only []
  obtain ⟨x, i2, k2, e2, p1, p2, p3⟩ := l1Below_eq b hb i1 k1 g3 8
  rw [e2, Option.bind_some]; simp only []
  obtain ⟨l, i3, k3, e3, q1, q2, q3⟩ := l1Bytes_eq b hb x (by omega) i2 k2 p3 k (by omega)
  rw [e3, Option.bind_some]
  exact ⟨key, l, rfl, by omega, q2⟩
theorem FnCipher : laws_FnCipher.Pure := by
  intro b _ _ _
  refine ⟨b.length + 100, ?_⟩
  unfold laws_FnCipher.f laws_big.f
  rw [Option.bind_some]
  by_cases hb : b.length ≤ 1048576
  · rw [if_neg (by simp; omega)]
    obtain ⟨key, l, e0, hl, hw⟩ := dEn b hb (b.length + 100) (by omega)
    have h1 := encl_length key l
    have h2 := decl_length key l
    rw [e0, Option.bind_some]; simp only []
    rw [impl_Encrypt_eq key l (by omega) _ (by omega), Option.bind_some, impl_Decrypt_eq key (encl key l) (by omega) _ (by omega), Option.bind_some, dec_enc key l hw, laws_sameBytes_eq l l (by omega) _ (by omega), Option.bind_some, if_pos (by simp),
      impl_Decrypt_eq key l (by omega) _ (by omega), Option.bind_some, impl_Encrypt_eq key (decl key l) (by omega) _ (by omega), Option.bind_some, enc_dec key l hw, laws_sameBytes_eq l l (by omega) _ (by omega), Option.bind_some, if_pos (by simp), Option.bind_some, h1]
    simp
  · rw [if_pos (by simp; omega)]
end Go.Proofs.Ytdoackhmdcpfaaa.Pure
