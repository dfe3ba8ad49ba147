/- An integer is decoded from its varint, and a decoded varint is the encoding of its integer, for all inputs of the law. Conditions: none. -/
import Derived.Test.YtdoackhmdcpfaaaGFnVarintsx4
import Derived.OpenShut
namespace Go.Proofs.Ytdoackhmdcpfaaa.Pure
open Go.RowKit Go.Proofs.Ytdoackhmdcpfaaa.GFnVarints Go.Proofs.YtdoackhmdcpfaaaW.PrintWords Go.Proofs.YtdoackhmdcpfaaaW.PrintLast
theorem wr {i : Int} (h0 : -9223372036854775808 ≤ i) (h : i ≤ 9223372036854775807) : wrap64 i = i := by unfold wrap64; omega
theorem wrs {i : Nat} (h : i < 9223372036854775807) : wrap64 ((i : Int) + 1) = ((i + 1 : Nat) : Int) := by unfold wrap64; omega
theorem rd_nat (l : List Int) (i : Nat) (h : i < l.length) : rd l (i : Int) = l[i] := by simp [rd, h]
theorem rd_some (l : List Int) (i : Nat) (h : i < l.length) : l[i]? = some (rd l (i : Int)) := by rw [rd_nat l i h, List.getElem?_eq_getElem h]
theorem rounds_succ {d k : Nat} (h : d < k) : ∃ m, k = m + 1 := ⟨k - 1, by omega⟩
theorem laws_sameBytes_l (a b : List Int) (hl : a.length ≤ 1099511627776) (hab : a.length = b.length) : ∀ (d k i : Nat), (∀ j, j < i → a[j]? = b[j]?) → i + d = a.length → d < k → laws_sameBytes.l0 k a b i = some (decide (a = b)) := by
  intro d
  induction d with
  | zero =>
    intro k i hp hd hk
    obtain ⟨k, rfl⟩ := rounds_succ hk
    simp only [laws_sameBytes.l0]; rw [if_neg (by omega)]
    have : a = b := by
      refine List.ext_getElem? fun j => ?_
      by_cases hj : j < i
      · exact hp j hj
      · rw [List.getElem?_eq_none (by omega), List.getElem?_eq_none (by omega)]
    simp [this]
  | succ d ih =>
    intro k i hp hd hk
    obtain ⟨k, rfl⟩ := rounds_succ hk
    simp only [laws_sameBytes.l0]; rw [if_pos (by omega), if_pos (by omega), if_pos (by omega)]
    by_cases e : rd a i = rd b i
    · rw [if_pos e, wrs (by omega)]
      refine ih k (i + 1) ?_ (by omega) (by omega)
      intro j hj
      by_cases e' : j = i
      · subst e'; rw [rd_some a j (by omega), rd_some b j (by omega), e]
      · exact hp j (by omega)
    · rw [if_neg e]
      have : ¬ a = b := fun h => e (by rw [h])
      simp [this]
theorem laws_sameBytes_eq (a b : List Int) (hl : a.length ≤ 1099511627776) (k : Nat) (hk : a.length < k) : laws_sameBytes.f k a b = some (decide (a = b)) := by
  unfold laws_sameBytes.f
  by_cases h : a.length = b.length
  · rw [if_pos (by omega)]
    exact laws_sameBytes_l a b hl h a.length k 0 (fun j hj => by omega) (by omega) hk
  · rw [if_neg (by omega)]
    have : ¬ a = b := fun e => h (by rw [e])
    simp [this]
theorem in_i64 {n : Int} (h : (Lit.int .i64 n).wf = true) : -9223372036854775808 ≤ n ∧ n ≤ 9223372036854775807 := bounds_i64 h
theorem in_u8 {n : Int} (h : (Lit.int .u8 n).wf = true) : 0 ≤ n ∧ n ≤ 255 := bounds_u8 h
theorem tmod_cases (a b : Int) (hb : 0 < b) : (0 ≤ a.tmod b ∧ a.tmod b = a % b) ∨ (a.tmod b < 0 ∧ a.tmod b + b = a % b) := by
  have h1 := Int.emod_nonneg a (show b ≠ 0 by omega)
  have h2 := Int.emod_lt_of_pos a hb
  rw [Int.tmod_eq_emod]
  split
  · left; omega
  · rename_i hn
    have : a % b ≠ 0 := fun e => hn (.inr (Int.dvd_of_emod_eq_zero e))
    right; omega
theorem tmod_nn (a b : Int) (ha : 0 ≤ a) : a.tmod b = a % b := by rw [Int.tmod_eq_emod, if_pos (.inl ha)]; omega
theorem and255 (y : Int) : 0 ≤ Go.bits .and .i64 y 255 ∧ Go.bits .and .i64 y 255 ≤ 255 := by
  have h : ((BitVec.ofInt 64 y &&& BitVec.ofInt 64 255).toNat) ≤ 255 := by
    rw [BitVec.toNat_and]
    exact Nat.and_le_right
  have e : Go.bits .and .i64 y 255 = IntKind.i64.wrap ((BitVec.ofInt 64 y &&& BitVec.ofInt 64 255).toNat : Int) := rfl
  rw [e]
  generalize (BitVec.ofInt 64 y &&& BitVec.ofInt 64 255).toNat = m at h
  rw [IntKind.wrap_i64]; omega
theorem l1New_l (b : List Int) (_hb : b.length ≤ 1048576) : ∀ (d k i : Nat) (h : Int), i + d = b.length → d < k → ∃ h', spec_l1New.l0 k b h i = some (b, 0, h') := by
  intro d
  induction d with
  | zero =>
    intro k i h hd hk
    obtain ⟨k, rfl⟩ := rounds_succ hk
    simp only [spec_l1New.l0]; rw [if_neg (by omega)]
    exact ⟨h, rfl⟩
  | succ d ih =>
    intro k i h hd hk
    obtain ⟨k, rfl⟩ := rounds_succ hk
    simp only [spec_l1New.l0]; rw [if_pos (by omega)]
    by_cases h4 : (i : Int) < 4000
    · rw [if_pos h4, if_pos (by omega), wrs (by omega)]
      exact ih k (i + 1) _ (by omega) (by omega)
    · rw [if_neg h4]
      exact ⟨h, rfl⟩
theorem l1New_eq (b : List Int) (hb : b.length ≤ 1048576) (k : Nat) (hk : b.length < k) : ∃ h', spec_l1New.f k b = some (b, 0, h') :=
  l1New_l b hb b.length k 0 _ (by omega) hk
def Cur (b : List Int) (i : Int) : Prop := 0 ≤ i ∧ i ≤ (b.length : Int)
theorem l1Byte_eq (b : List Int) (hb : b.length ≤ 1048576) (i h : Int) (hc : Cur b i) : ∃ x i' h', spec_l1Byte.f b i h = some (x, i', h') ∧ 0 ≤ x ∧ x ≤ 255 ∧ Cur b i' := by
  unfold Cur at *
  unfold spec_l1Byte.f
  by_cases h1 : i < (b.length : Int)
  · rw [if_pos h1, if_pos hc.1]
    exact ⟨_, _, _, rfl, (and255 _).1, (and255 _).2, by rw [wr (by omega) (by omega)]; omega⟩
  · rw [if_neg h1]
    exact ⟨_, _, _, rfl, (and255 _).1, (and255 _).2, hc⟩
theorem l1Below_eq (b : List Int) (hb : b.length ≤ 1048576) (i h : Int) (hc : Cur b i) (n : Int) : ∃ x i' h', spec_l1Below.f b i h n = some (x, i', h') ∧ 0 ≤ x ∧ (x < n ∨ (n ≤ 0 ∧ x = 0)) ∧ Cur b i' := by
  unfold spec_l1Below.f
  by_cases h0 : n ≤ 0
  · rw [if_pos h0]; exact ⟨0, i, h, rfl, by omega, .inr ⟨h0, rfl⟩, hc⟩
  · rw [if_neg h0]
    by_cases h1 : n ≤ 256
    · obtain ⟨x, i1, k1, e, g1, g2, g3⟩ := l1Byte_eq b hb i h hc
      rw [if_pos h1, e, Option.bind_some, if_neg (by omega)]
      simp only []
      rw [tmod_nn _ _ g1]
      exact ⟨_, i1, k1, rfl, Int.emod_nonneg _ (by omega), .inl (Int.emod_lt_of_pos _ (by omega)), g3⟩
    · obtain ⟨x, i1, k1, e, g1, g2, g3⟩ := l1Byte_eq b hb i h hc
      obtain ⟨y, i2, k2, e2, p1, p2, p3⟩ := l1Byte_eq b hb i1 k1 g3
      obtain ⟨z, i3, k3, e3, q1, q2, q3⟩ := l1Byte_eq b hb i2 k2 p3
      rw [if_neg h1, e, Option.bind_some]
      simp only []
      rw [e2, Option.bind_some]
      simp only []
      rw [e3, Option.bind_some, if_neg (by omega)]
      simp only []
      rw [wr (i := x * 65536) (by omega) (by omega), wr (i := y * 256) (by omega) (by omega), wr (i := x * 65536 + _) (by omega) (by omega), wr (by omega) (by omega), tmod_nn _ _ (by omega)]
      exact ⟨_, i3, k3, rfl, Int.emod_nonneg _ (by omega), .inl (Int.emod_lt_of_pos _ (by omega)), q3⟩
theorem l1Int_eq (b : List Int) (hb : b.length ≤ 1048576) (c h : Int) (hc : Cur b c) (l : List Int) (h0 : 0 < l.length) : ∃ x c' h', spec_l1Int.f b c h l = some (x, c', h') ∧ x ∈ l ∧ Cur b c' := by
  unfold spec_l1Int.f
  obtain ⟨x, i1, k1, e, g1, g2, g3⟩ := l1Below_eq b hb c h hc (l.length : Int)
  rw [e, Option.bind_some]
  simp only []
  rw [if_pos g1, if_pos (by omega)]
  refine ⟨_, i1, k1, rfl, ?_, g3⟩
  have := rd_nat l x.toNat (by omega)
  rw [show ((x.toNat : Nat) : Int) = x by omega] at this
  rw [this]; exact List.getElem_mem _
theorem l1Num_eq (b : List Int) (hb : b.length ≤ 1048576) (c h : Int) (hc : Cur b c) : ∃ x c' h', spec_l1Num.f b c h = some (x, c', h') ∧ 0 ≤ x ∧ x ≤ 1000000000000 ∧ Cur b c' := by
  unfold spec_l1Num.f
  obtain ⟨x, i1, k1, e, g1, g2, g3⟩ := l1Below_eq b hb c h hc 4
  rw [e, Option.bind_some]
  simp only []
  by_cases h0 : x = 0
  · rw [if_pos h0]
    obtain ⟨y, i2, k2, e2, p1, p2, p3⟩ := l1Below_eq b hb i1 k1 g3 2000
    rw [e2, Option.bind_some]
    exact ⟨y, i2, k2, rfl, p1, by omega, p3⟩
  · rw [if_neg h0]
    by_cases h1 : x = 1
    · rw [if_pos h1]
      obtain ⟨y, i2, k2, e2, p1, p3⟩ := l1Int_eq b hb i1 k1 g3 [0, 1, 127, 128, 2147483646, 2147483647, 1000000000000] (by decide)
      rw [e2, Option.bind_some]
      refine ⟨y, i2, k2, rfl, ?_, ?_, p3⟩
      · simp at p1; omega
      · simp at p1; omega
    · rw [if_neg h1]
      by_cases h2 : x = 2
      · rw [if_pos h2]
        obtain ⟨y, i2, k2, e2, p1, p2, p3⟩ := l1Below_eq b hb i1 k1 g3 1000000
        rw [e2, Option.bind_some]
        simp only []
        obtain ⟨z, i3, k3, e3, q1, q2, q3⟩ := l1Below_eq b hb i2 k2 p3 1000000
        rw [e3, Option.bind_some]
        have m0 := Int.mul_nonneg p1 q1
        have m1 : y * z ≤ 1000000 * 1000000 := Int.mul_le_mul (by omega) (by omega) q1 (by omega)
        simp only []
        rw [wr (by omega) (by omega)]
        exact ⟨_, i3, k3, rfl, m0, by omega, q3⟩
      · rw [if_neg h2]
        obtain ⟨y, i2, k2, e2, p1, p2, p3⟩ := l1Below_eq b hb i1 k1 g3 20
        rw [e2, Option.bind_some]
        exact ⟨y, i2, k2, rfl, p1, by omega, p3⟩
theorem l1Once_eq (b : List Int) (hb : b.length ≤ 1048576) (c h : Int) (hc : Cur b c) (n : Int) : ∃ (x : Bool) (c' h' : Int), spec_l1Once.f b c h n = some (x, c', h') ∧ Cur b c' := by
  unfold spec_l1Once.f
  obtain ⟨x, i1, k1, e, g1, g2, g3⟩ := l1Below_eq b hb c h hc n
  rw [e, Option.bind_some]
  exact ⟨_, i1, k1, rfl, g3⟩
def In64 (x : Int) : Prop := -9223372036854775808 ≤ x ∧ x ≤ 9223372036854775807
theorem l1Odd_eq (b : List Int) (hb : b.length ≤ 1048576) (c h : Int) (hc : Cur b c) : ∃ x c' h', spec_l1Odd.f b c h = some (x, c', h') ∧ In64 x ∧ Cur b c' := by
  unfold spec_l1Odd.f
  obtain ⟨y, i2, k2, e2, p1, p3⟩ := l1Int_eq b hb c h hc [(-1), 0, 1, 2, 255, 256, 65535, 2147483647, 2147483648, 4294967295, 4294967296, (-2147483648), 9223372036854775807, (-9223372036854775808)] (by decide)
  rw [e2, Option.bind_some]
  refine ⟨y, i2, k2, rfl, ?_, p3⟩
  unfold In64; simp at p1; omega
theorem l1Raw_eq (b : List Int) (hb : b.length ≤ 1048576) (c h : Int) (hc : Cur b c) : ∃ x c' h', spec_l1Raw.f b c h = some (x, c', h') ∧ In64 x ∧ Cur b c' := by
  unfold spec_l1Raw.f
  obtain ⟨x, i1, k1, e, g3⟩ := l1Once_eq b hb c h hc 2
  rw [e, Option.bind_some]
  simp only []
  cases x with
  | true =>
    rw [if_pos rfl]
    obtain ⟨y, i2, k2, e2, p1, p3⟩ := l1Odd_eq b hb i1 k1 g3
    rw [e2, Option.bind_some]
    exact ⟨y, i2, k2, rfl, p1, p3⟩
  | false =>
    rw [if_neg (by simp)]
    obtain ⟨y, i2, k2, e2, p1, p3⟩ := l1Int_eq b hb i1 k1 g3 [(-1), 1000000000000, 1000000000001] (by decide)
    rw [e2, Option.bind_some]
    refine ⟨y, i2, k2, rfl, ?_, p3⟩
    unfold In64; simp at p1; omega
theorem l1One_eq (b : List Int) (hb : b.length ≤ 1048576) (c h : Int) (hc : Cur b c) : ∃ x c' h', spec_l1One.f b c h = some (x, c', h') ∧ In64 x ∧ Cur b c' := by
  unfold spec_l1One.f
  obtain ⟨x, i1, k1, e, g3⟩ := l1Once_eq b hb c h hc 6
  rw [e, Option.bind_some]
  simp only []
  cases x with
  | true =>
    rw [if_pos rfl]
    obtain ⟨y, i2, k2, e2, p1, p3⟩ := l1Raw_eq b hb i1 k1 g3
    rw [e2, Option.bind_some]
    exact ⟨y, i2, k2, rfl, p1, p3⟩
  | false =>
    rw [if_neg (by simp)]
    obtain ⟨y, i2, k2, e2, p0, p1, p3⟩ := l1Num_eq b hb i1 k1 g3
    rw [e2, Option.bind_some]
    exact ⟨y, i2, k2, rfl, by unfold In64; omega, p3⟩
theorem l1Bytes_l (b : List Int) (hb : b.length ≤ 1048576) (n : Int) (hn : n ≤ 1048576) : ∀ (d k i : Nat) (o : List Int) (c h : Int), Cur b c → (i : Int) + d = n ∨ (d = 0 ∧ n ≤ i) → o.length = i → (∀ x ∈ o, 0 ≤ x ∧ x ≤ 255) → d < k → ∃ l c' h', spec_l1Bytes.l0 k n o i b c h = some (l, c', h') ∧ l.length = i + d ∧ (∀ x ∈ l, 0 ≤ x ∧ x ≤ 255) ∧ Cur b c' := by
  intro d
  induction d with
  | zero =>
    intro k i o c h hc hd ho hw hk
    obtain ⟨k, rfl⟩ := rounds_succ hk
    simp only [spec_l1Bytes.l0]; rw [if_neg (by omega)]
    exact ⟨o, c, h, rfl, by omega, hw, hc⟩
  | succ d ih =>
    intro k i o c h hc hd ho hw hk
    obtain ⟨k, rfl⟩ := rounds_succ hk
    obtain ⟨x, c1, h1, e, g1, g2, g3⟩ := l1Byte_eq b hb c h hc
    simp only [spec_l1Bytes.l0]; rw [if_pos (by omega), e, Option.bind_some, if_pos (by omega), wrs (by omega)]
    obtain ⟨l, c2, h2, e2, p1, p2, p3⟩ := ih k (i + 1) (o ++ [x % 256]) c1 h1 g3 (by omega) (by simp [ho]) (fun y hy => by
      rcases List.mem_append.1 hy with hy | hy
      · exact hw y hy
      · rw [List.mem_singleton.1 hy]; omega) (by omega)
    exact ⟨l, c2, h2, e2, by omega, p2, p3⟩
theorem l1Bytes_eq (b : List Int) (hb : b.length ≤ 1048576) (n : Int) (hn : n ≤ 1048576) (c h : Int) (hc : Cur b c) (k : Nat) (hk : n.toNat < k) : ∃ l c' h', spec_l1Bytes.f k b c h n = some (l, c', h') ∧ l.length = n.toNat ∧ (∀ x ∈ l, 0 ≤ x ∧ x ≤ 255) ∧ Cur b c' := by
  obtain ⟨l, c', h', e, h1, h2, h3⟩ := l1Bytes_l b hb n hn n.toNat k 0 [] c h hc (by omega) rfl (fun x hx => by cases hx) hk
  exact ⟨l, c', h', e, by omega, h2, h3⟩
theorem wraps_i64 (n : Int) (h₀ : 0 ≤ n) (h₁ : n < 2 ^ 63) : IntKind.i64.wrap n = n := by rw [IntKind.wrap_i64]; omega
theorem and127 (n : Int) (h0 : 0 ≤ n) (h1 : n < 9223372036854775808) : Go.bits .and .i64 n 127 = n % 128 := bits_mask .i64 63 (by decide) wraps_i64 7 (by decide) n h0 h1
theorem and127u (n : Int) (h0 : 0 ≤ n) (h1 : n < 256) : Go.bits .and .u8 n 127 = n % 128 := bits_mask .u8 8 (by decide) wraps_u8 7 (by decide) n h0 h1
theorem or_add (k : IntKind) (j : Nat) (hj : j ≤ k.bits) (hk : ∀ n : Int, 0 ≤ n → n < 2 ^ j → k.wrap n = n) (i : Nat)
    (x y : Int) (hx₀ : 0 ≤ x) (hx : x % 2 ^ i = 0) (hx₁ : x < 2 ^ j) (hy₀ : 0 ≤ y) (hy : y < 2 ^ i) (hy₁ : y < 2 ^ j) : Go.bits .or k y x = y + x := by
  have h := bits_join k j hj hk i x y hx₀ hx hx₁ hy₀ hy hy₁
  rw [Int.add_comm, ← h]
  obtain ⟨a, rfl⟩ := Int.eq_ofNat_of_zero_le hx₀
  obtain ⟨b, rfl⟩ := Int.eq_ofNat_of_zero_le hy₀
  have ha : a < 2 ^ j := by exact_mod_cast hx₁
  have hb : b < 2 ^ j := by exact_mod_cast hy₁
  rw [(bits_nat k j hj hk b a hb ha).2, (bits_nat k j hj hk a b ha hb).2, Nat.or_comm]
theorem or128 (y : Int) (h0 : 0 ≤ y) (h1 : y < 128) : Go.bits .or .i64 y 128 = y + 128 := or_add .i64 63 (by decide) wraps_i64 7 128 y (by decide) (by decide) (by decide) h0 h1 (by omega)
theorem or128u (y : Int) (h0 : 0 ≤ y) (h1 : y < 128) : Go.bits .or .u8 y 128 = y + 128 := or_add .u8 8 (by decide) wraps_u8 7 128 y (by decide) (by decide) (by decide) h0 h1 (by omega)
def uv (n : Nat) : List Int := if _h : n < 128 then [(n : Int)] else (((n % 128 : Nat) : Int) + 128) :: uv (n / 128)
termination_by n
decreasing_by omega
theorem uv_small (n : Nat) (h : n < 128) : uv n = [(n : Int)] := by rw [uv]; simp [h]
theorem uv_big (n : Nat) (h : 128 ≤ n) : uv n = (((n % 128 : Nat) : Int) + 128) :: uv (n / 128) := by rw [uv]; rw [dif_neg (by omega)]
theorem uv_length (d : Nat) : ∀ n, n < 128 ^ (d + 1) → (uv n).length ≤ d + 1 := by
  induction d with
  | zero => intro n h; rw [uv_small n (by simpa using h)]; simp
  | succ d ih =>
    intro n h
    by_cases h1 : n < 128
    · rw [uv_small n h1]; simp
    · rw [uv_big n (by omega), List.length_cons]
      have := ih (n / 128) (by rw [Nat.pow_succ] at h; omega)
      omega
theorem uv_len6 (n : Nat) (h : n ≤ 1000000000000) : (uv n).length ≤ 6 := uv_length 5 n (by omega)
def auv (b : List Int) (n : Int) : List Int := if 0 ≤ n ∧ n ≤ 1000000000000 then b ++ uv n.toNat else b
theorem auv_len (b : List Int) (n : Int) : (auv b n).length ≤ b.length + 6 := by
  unfold auv
  split
  · have := uv_len6 n.toNat (by omega)
    rw [List.length_append]; omega
  · omega
theorem impl_InRange_eq (a b c : Int) : impl_InRange.f a b c = some (decide (b ≤ a ∧ a ≤ c)) := by
  unfold impl_InRange.f; by_cases h : b ≤ a <;> simp [h]
theorem impl_AU_l (d : Nat) : ∀ (k n : Nat) (out : List Int), n < 128 ^ (d + 1) → n < 9223372036854775808 → out.length + d + 1 < 140737488355328 → d < k → impl_AppendUvarint.l0 k n out = some (out ++ uv n) := by
  induction d with
  | zero =>
    intro k n out hn hn2 ho hk
    obtain ⟨k, rfl⟩ := rounds_succ hk
    simp at hn
    simp only [impl_AppendUvarint.l0]; rw [if_neg (by omega), if_pos (by omega), uv_small n (by omega)]
    congr 3; omega
  | succ d ih =>
    intro k n out hn hn2 ho hk
    obtain ⟨k, rfl⟩ := rounds_succ hk
    simp only [impl_AppendUvarint.l0]
    by_cases h : n < 128
    · rw [if_neg (by omega), if_pos (by omega), uv_small n (by omega)]
      congr 3; omega
    · rw [if_pos (by omega), if_pos (by omega), and127 _ (by omega) (by omega), or128u _ (by omega) (by omega), uv_big n (by omega)]
      have := ih k (n / 128) (out ++ [((n : Int) % 128) % 256 + 128]) (by rw [Nat.pow_succ] at hn; omega) (by omega) (by rw [List.length_append, List.length_singleton]; omega) (by omega)
      rw [show ((n : Int) / 128) = ((n / 128 : Nat) : Int) by omega, this, List.append_assoc, List.singleton_append]
      congr 3; omega
theorem impl_AU_eq (b : List Int) (n : Int) (hb : b.length ≤ 1099511627776) (k : Nat) (hk : 6 < k) : impl_AppendUvarint.f k b n = some (auv b n) := by
  unfold impl_AppendUvarint.f auv
  simp only [Option.bind_some, List.nil_append, List.length_nil]
  rw [if_pos (by omega), impl_InRange_eq, Option.bind_some]
  by_cases h : 0 ≤ n ∧ n ≤ 1000000000000
  · rw [if_pos (by simp [h]), if_pos h]
    have := impl_AU_l 5 k n.toNat b (by omega) (by omega) (by omega) (by omega)
    rwa [show ((n.toNat : Nat) : Int) = n by omega] at this
  · rw [if_neg (by simp; omega), if_neg h]
theorem spec_l1In_eq (a b c : Int) : spec_l1In.f a b c = some (decide (b ≤ a ∧ a ≤ c)) := by
  unfold spec_l1In.f; by_cases h : b ≤ a <;> simp [h]
theorem spec_AU_l (d : Nat) : ∀ (k n : Nat) (out : List Int), n < 128 ^ (d + 1) → n < 9223372036854775808 → out.length + d + 1 < 140737488355328 → d < k → spec_AppendUvarint.l0 k n out = some (out ++ uv n) := by
  induction d with
  | zero =>
    intro k n out hn hn2 ho hk
    obtain ⟨k, rfl⟩ := rounds_succ hk
    simp at hn
    simp only [spec_AppendUvarint.l0]; rw [if_neg (by omega), if_pos (by omega), uv_small n (by omega)]
    congr 3; omega
  | succ d ih =>
    intro k n out hn hn2 ho hk
    obtain ⟨k, rfl⟩ := rounds_succ hk
    simp only [spec_AppendUvarint.l0]
    by_cases h : n < 128
    · rw [if_neg (by omega), if_pos (by omega), uv_small n (by omega)]
      congr 3; omega
    · rw [if_pos (by omega), if_pos (by omega), and127 _ (by omega) (by omega), or128 _ (by omega) (by omega), uv_big n (by omega)]
      have := ih k (n / 128) (out ++ [((n : Int) % 128 + 128) % 256]) (by rw [Nat.pow_succ] at hn; omega) (by omega) (by rw [List.length_append, List.length_singleton]; omega) (by omega)
      rw [show ((n : Int) / 128) = ((n / 128 : Nat) : Int) by omega, this, List.append_assoc, List.singleton_append]
      congr 3; omega
theorem spec_AU_eq (b : List Int) (n : Int) (hb : b.length ≤ 1099511627776) (k : Nat) (hk : 6 < k) : spec_AppendUvarint.f k b n = some (auv b n) := by
  unfold spec_AppendUvarint.f auv
  simp only [Option.bind_some, List.nil_append, List.length_nil]
  rw [if_pos (by omega), spec_l1In_eq, Option.bind_some]
  by_cases h : 0 ≤ n ∧ n ≤ 1000000000000
  · rw [if_pos (by simp [h]), if_pos h]
    have := spec_AU_l 5 k n.toNat b (by omega) (by omega) (by omega) (by omega)
    rwa [show ((n.toNat : Nat) : Int) = n by omega] at this
  · rw [if_neg (by simp; omega), if_neg h]
theorem take_rd (l : List Int) (i : Nat) (h : i < l.length) : l.take (i + 1) = l.take i ++ [rd l i] := by rw [rd_nat l i h, List.take_add_one, List.getElem?_eq_getElem h]; rfl
theorem wrb (l : List Int) (hw : ∀ x ∈ l, (Lit.int .u8 x).wf = true) (i : Nat) (h : i < l.length) : 0 ≤ rd l i ∧ rd l i ≤ 255 := by
  rw [rd_nat l i h]; exact in_u8 (hw _ (List.getElem_mem h))
theorem orshl (n v : Int) (s : Nat) (y : Int) (hy : y = s) (hs : s ≤ 35) (h0 : 0 ≤ n) (h1 : n < 2 ^ s) (v0 : 0 ≤ v) (v1 : v < 128) : Go.bits .or .i64 n (shl .i64 v y) = n + v * 2 ^ s := by
  have hp : (2 : Int) ^ s ≤ 2 ^ 35 := by exact_mod_cast Nat.pow_le_pow_right (show 2 > 0 by omega) hs
  have hp0 : (0 : Int) < 2 ^ s := by exact_mod_cast Nat.two_pow_pos s
  have hv0 : 0 ≤ v * 2 ^ s := Int.mul_nonneg v0 (by omega)
  have hv1 : v * 2 ^ s ≤ 127 * 2 ^ 35 := Int.le_trans (Int.mul_le_mul_of_nonneg_right (show v ≤ 127 by omega) (by omega)) (Int.mul_le_mul_of_nonneg_left hp (by omega))
  unfold shl
  rw [hy, Int.toNat_natCast, Nat.min_eq_left (by simp [IntKind.bits]; omega), wraps_i64 _ hv0 (by omega)]
  exact or_add .i64 63 (by decide) wraps_i64 s (v * 2 ^ s) n hv0 (Int.mul_emod_left v _) (by omega) h0 h1 (by omega)
theorem wra (a j : Nat) (h : a + j ≤ 9223372036854775807) : wrap64 ((a : Int) + (j : Int)) = ((a + j : Nat) : Int) := by rw [wr (by omega) (by omega)]; omega
theorem wr7 (j : Nat) (h : j ≤ 1000) : wrap64 (7 * (j : Int)) = ((7 * j : Nat) : Int) := by rw [wr (by omega) (by omega)]; omega
def rv : Nat → Nat → Int → List Int → Option (Int × Nat)
  | 0, _, _, _ => none
  | _ + 1, _, _, [] => none
  | f + 1, j, n, v :: R => if v < 128 then (if (0 < j ∧ v = 0) ∨ n + v * 2 ^ (7 * j) > 1000000000000 then none else some (n + v * 2 ^ (7 * j), j + 1)) else rv f (j + 1) (n + (v % 128) * 2 ^ (7 * j)) R
def rvo (a : Nat) : Option (Int × Nat) → Int × Int × Bool
  | none => (0, 0, false)
  | some (n, c) => (n, ((a + c : Nat) : Int), true)
def ru (b : List Int) (a : Int) : Int × Int × Bool := if a < 0 then (0, 0, false) else rvo a.toNat (rv 6 0 0 (b.drop a.toNat))
theorem pow_step (j : Nat) (n v : Int) (h1 : n < 2 ^ (7 * j)) (v1 : v < 128) : n + v * 2 ^ (7 * j) < 2 ^ (7 * (j + 1)) := by
  have hp0 : (0 : Int) < 2 ^ (7 * j) := by exact_mod_cast Nat.two_pow_pos (7 * j)
  have e : (2 : Int) ^ (7 * (j + 1)) = 2 ^ (7 * j) * 128 := by rw [show 7 * (j + 1) = 7 * j + 7 by omega, Int.pow_add]; rfl
  have : v * 2 ^ (7 * j) ≤ 127 * 2 ^ (7 * j) := Int.mul_le_mul_of_nonneg_right (by omega) (by omega)
  rw [e]; omega
theorem nn_step (j : Nat) (n v : Int) (h0 : 0 ≤ n) (v0 : 0 ≤ v) : 0 ≤ n + v * 2 ^ (7 * j) := by
  have hp0 : (0 : Int) < 2 ^ (7 * j) := by exact_mod_cast Nat.two_pow_pos (7 * j)
  have := Int.mul_nonneg v0 (show (0 : Int) ≤ 2 ^ (7 * j) by omega)
  omega
theorem rv_bd (f : Nat) : ∀ (j : Nat) (n : Int) (R : List Int) (m : Int) (c : Nat), 0 ≤ n → (∀ v ∈ R, 0 ≤ v) → rv f j n R = some (m, c) → 0 ≤ m ∧ m ≤ 1000000000000 ∧ j < c ∧ c ≤ j + R.length ∧ c ≤ j + f := by
  induction f with
  | zero => intro j n R m c _ _ h; simp [rv] at h
  | succ f ih =>
    intro j n R m c h0 hR h
    cases R with
    | nil => simp [rv] at h
    | cons v R =>
      have hv := hR v (List.mem_cons_self ..)
      simp only [rv] at h
      split at h
      · split at h
        · cases h
        · rename_i hn
          injection h with h; injection h with h1 h2
          subst h1 h2
          have := nn_step j n v h0 hv
          simp only [List.length_cons]
          refine ⟨this, ?_, by omega, by omega, by omega⟩
          by_cases e : n + v * 2 ^ (7 * j) > 1000000000000
          · exact absurd (.inr e) hn
          · omega
      · have := ih (j + 1) _ R m c (nn_step j n (v % 128) h0 (by omega)) (fun v hv => hR v (List.mem_cons_of_mem _ hv)) h
        simp only [List.length_cons]; omega
theorem dropn_nil (b : List Int) (i : Nat) (h : b.drop i = []) : b.length ≤ i := by
  have := congrArg List.length h
  simp at this; omega
theorem dropn_cons (b : List Int) (i : Nat) (c : Int) (t : List Int) (h : b.drop i = c :: t) : i < b.length ∧ rd b i = c ∧ b.drop (i + 1) = t := by
  have hl := congrArg List.length h
  simp at hl
  have hi : i < b.length := by omega
  rw [List.drop_eq_getElem_cons hi, ← rd_nat b i hi] at h
  exact ⟨hi, by injection h, by injection h⟩
theorem impl_RU_l (b : List Int) (hb : b.length ≤ 140737488351232) (hw : ∀ x ∈ b, (Lit.int .u8 x).wf = true) (a : Nat) : ∀ (f k j : Nat) (n : Int) (R : List Int), j + f = 6 → b.drop (a + j) = R → 0 ≤ n → n < 2 ^ (7 * j) → a + j ≤ b.length → f < k → impl_ReadUvarint.l0 k b a n j = some (rvo a (rv f j n R)) := by
  intro f
  induction f with
  | zero =>
    intro k j n R hj hR h0 h1 ha hk
    obtain ⟨k, rfl⟩ := rounds_succ hk
    simp only [impl_ReadUvarint.l0]; rw [if_neg (by omega)]; rfl
  | succ f ih =>
    intro k j n R hj hR h0 h1 ha hk
    obtain ⟨k, rfl⟩ := rounds_succ hk
    simp only [impl_ReadUvarint.l0]; rw [if_pos (by omega), wra a j (by omega)]
    cases R with
    | nil =>
      have := dropn_nil b _ hR
      rw [if_pos (by omega)]; rfl
    | cons v R =>
      obtain ⟨g1, g2, g3⟩ := dropn_cons b _ v R hR
      have hv : 0 ≤ v ∧ v ≤ 255 := by rw [← g2]; exact wrb b hw _ g1
      rw [if_neg (by omega), if_pos (by omega), if_pos (by omega), wr7 j (by omega), if_pos (by omega), g2, and127u v hv.1 (by omega), wr (i := v % 128) (by omega) (by omega), orshl n (v % 128) (7 * j) _ rfl (by omega) h0 h1 (by omega) (by omega)]
      simp only [rv]
      by_cases h128 : v < 128
      · have hm : v % 128 = v := by omega
        rw [if_pos h128, if_pos h128, show wrap64 (((a + j : Nat) : Int) + 1) = ((a + (j + 1) : Nat) : Int) from wrs (by omega), hm]
        clear ih h1 hm
        generalize n + v * 2 ^ (7 * j) = P
        by_cases hj0 : 0 < j
        · have hj1 : (j : Int) > 0 := by omega
          rw [if_pos hj1]
          by_cases hv0 : v = 0
          · have hc : (0 < j ∧ v = 0) ∨ P > 1000000000000 := .inl ⟨hj0, hv0⟩
            rw [if_pos hv0, if_pos hc]; rfl
          · rw [if_neg hv0]
            by_cases hm : P > 1000000000000
            · have hc : (0 < j ∧ v = 0) ∨ P > 1000000000000 := .inr hm
              rw [if_pos hm, if_pos hc]; rfl
            · have hc : ¬ ((0 < j ∧ v = 0) ∨ P > 1000000000000) := fun h => h.elim (fun h => hv0 h.2) hm
              rw [if_neg hm, if_neg hc]; rfl
        · have hj1 : ¬ ((j : Int) > 0) := by omega
          rw [if_neg hj1]
          by_cases hm : P > 1000000000000
          · have hc : (0 < j ∧ v = 0) ∨ P > 1000000000000 := .inr hm
            rw [if_pos hm, if_pos hc]; rfl
          · have hc : ¬ ((0 < j ∧ v = 0) ∨ P > 1000000000000) := fun h => h.elim (fun h => hj0 h.1) hm
            rw [if_neg hm, if_neg hc]; rfl
      · rw [if_neg h128, if_neg h128, wrs (by omega)]
        exact ih k (j + 1) _ R (by omega) (by rw [show a + (j + 1) = a + j + 1 from rfl]; exact g3) (nn_step j n _ h0 (by omega)) (pow_step j n _ h1 (by omega)) (by omega) (by omega)
theorem impl_RU_eq (b : List Int) (hb : b.length ≤ 140737488351232) (hw : ∀ x ∈ b, (Lit.int .u8 x).wf = true) (a : Int) (k : Nat) (hk : 7 < k) : impl_ReadUvarint.f k b a = some (ru b a) := by
  obtain ⟨k, rfl⟩ := rounds_succ hk
  unfold impl_ReadUvarint.f ru
  by_cases h0 : a < 0
  · rw [if_pos h0, if_pos h0]; simp [impl_ReadUvarint.j0]
  · rw [if_neg h0, if_neg h0]
    simp only [impl_ReadUvarint.j0]
    by_cases h1 : a ≥ (b.length : Int)
    · rw [if_pos (by simp [h1]), List.drop_eq_nil_of_le (by omega)]; rfl
    · rw [if_neg (by simp; omega)]
      have := impl_RU_l b hb hw a.toNat 6 k 0 0 (b.drop a.toNat) rfl rfl (by omega) (by simp) (by omega) (by omega)
      rwa [show ((a.toNat : Nat) : Int) = a by omega] at this
theorem spec_RU_l (b : List Int) (hb : b.length ≤ 140737488351232) (hw : ∀ x ∈ b, (Lit.int .u8 x).wf = true) (a : Nat) : ∀ (f k j : Nat) (n : Int) (R : List Int), j + f = 6 → b.drop (a + j) = R → 0 ≤ n → n < 2 ^ (7 * j) → 2 * f + 1 < k → spec_ReadUvarint.l0 k b a n j = some (rvo a (rv f j n R)) := by
  intro f
  induction f with
  | zero =>
    intro k j n R hj hR h0 h1 hk
    obtain ⟨k, rfl⟩ := rounds_succ hk
    simp only [spec_ReadUvarint.l0]; rw [if_neg (by omega)]; rfl
  | succ f ih =>
    intro k j n R hj hR h0 h1 hk
    obtain ⟨k, rfl⟩ := rounds_succ hk
    obtain ⟨k, rfl⟩ := rounds_succ (show 0 < k by omega)
    simp only [spec_ReadUvarint.l0]; rw [if_pos (by omega), if_neg (by omega), wr (i := (b.length : Int) - j) (by omega) (by omega)]
    simp only [spec_ReadUvarint.j1]
    cases R with
    | nil =>
      have := dropn_nil b _ hR
      rw [if_pos (by simp; omega)]; rfl
    | cons v R =>
      obtain ⟨g1, g2, g3⟩ := dropn_cons b _ v R hR
      have hv : 0 ≤ v ∧ v ≤ 255 := by rw [← g2]; exact wrb b hw _ g1
      rw [if_neg (by simp; omega), wra a j (by omega), if_pos (by omega), if_pos (by omega), wr7 j (by omega), if_pos (by omega), g2, wr (i := v) (by omega) (by omega), and127 v hv.1 (by omega), orshl n (v % 128) (7 * j) _ rfl (by omega) h0 h1 (by omega) (by omega)]
      simp only [rv]
      by_cases h128 : v < 128
      · have hm : v % 128 = v := by omega
        rw [if_pos h128, if_pos h128, show wrap64 (((a + j : Nat) : Int) + 1) = ((a + (j + 1) : Nat) : Int) from wrs (by omega), hm]
        clear ih h1 hm
        generalize n + v * 2 ^ (7 * j) = P
        by_cases hv0 : v = 0
        · rw [if_pos hv0]
          by_cases hj0 : 0 < j
          · have hj1 : (j : Int) > 0 := by omega
            have hc : (0 < j ∧ v = 0) ∨ P > 1000000000000 := .inl ⟨hj0, hv0⟩
            rw [if_pos hj1, if_pos hc]; rfl
          · have hj1 : ¬ ((j : Int) > 0) := by omega
            rw [if_neg hj1]
            by_cases hm : P > 1000000000000
            · have hc : (0 < j ∧ v = 0) ∨ P > 1000000000000 := .inr hm
              rw [if_pos hm, if_pos hc]; rfl
            · have hc : ¬ ((0 < j ∧ v = 0) ∨ P > 1000000000000) := fun h => h.elim (fun h => hj0 h.1) hm
              rw [if_neg hm, if_neg hc]; rfl
        · rw [if_neg hv0]
          by_cases hm : P > 1000000000000
          · have hc : (0 < j ∧ v = 0) ∨ P > 1000000000000 := .inr hm
            rw [if_pos hm, if_pos hc]; rfl
          · have hc : ¬ ((0 < j ∧ v = 0) ∨ P > 1000000000000) := fun h => h.elim (fun h => hv0 h.2) hm
            rw [if_neg hm, if_neg hc]; rfl
      · rw [if_neg h128, if_neg h128, wrs (by omega)]
        exact ih k (j + 1) _ R (by omega) (by rw [show a + (j + 1) = a + j + 1 from rfl]; exact g3) (nn_step j n _ h0 (by omega)) (pow_step j n _ h1 (by omega)) (by omega)
theorem spec_RU_eq (b : List Int) (hb : b.length ≤ 140737488351232) (hw : ∀ x ∈ b, (Lit.int .u8 x).wf = true) (a : Int) (k : Nat) (hk : 14 < k) : spec_ReadUvarint.f k b a = some (ru b a) := by
  unfold spec_ReadUvarint.f ru
  by_cases h0 : a < 0
  · rw [if_pos h0]
    obtain ⟨k, rfl⟩ := rounds_succ hk
    obtain ⟨k, rfl⟩ := rounds_succ (show 0 < k by omega)
    simp only [spec_ReadUvarint.l0]; rw [if_pos (by omega), if_pos h0]; simp [spec_ReadUvarint.j1]
  · rw [if_neg h0]
    have := spec_RU_l b hb hw a.toNat 6 k 0 0 (b.drop a.toNat) rfl rfl (by omega) (by simp) (by omega)
    rwa [show ((a.toNat : Nat) : Int) = a by omega] at this
theorem rv_uv (f : Nat) : ∀ (j : Nat) (n : Int) (q : Nat) (tail : List Int), (uv q).length ≤ f → n + (q : Int) * 2 ^ (7 * j) ≤ 1000000000000 → (0 < j → 0 < q) → rv f j n (uv q ++ tail) = some (n + (q : Int) * 2 ^ (7 * j), j + (uv q).length) := by
  induction f with
  | zero =>
    intro j n q tail hf _ _
    by_cases h : q < 128
    · rw [uv_small q h] at hf; simp at hf
    · rw [uv_big q (by omega)] at hf; simp at hf
  | succ f ih =>
    intro j n q tail hf hm hj
    by_cases h : q < 128
    · rw [uv_small q h]
      simp only [List.singleton_append, rv, List.length_singleton]
      rw [if_pos (by omega)]
      have hc : ¬ ((0 < j ∧ (q : Int) = 0) ∨ n + (q : Int) * 2 ^ (7 * j) > 1000000000000) := by
        rintro (⟨h1, h2⟩ | h1)
        · have := hj h1; omega
        · exact absurd h1 (Int.not_lt.2 hm)
      rw [if_neg hc]
    · rw [uv_big q (by omega)] at hf ⊢
      simp only [List.cons_append, rv, List.length_cons] at hf ⊢
      rw [if_neg (by omega)]
      have e : (((q % 128 : Nat) : Int) + 128) % 128 = ((q % 128 : Nat) : Int) := by omega
      have ep : (2 : Int) ^ (7 * (j + 1)) = 2 ^ (7 * j) * 128 := by rw [show 7 * (j + 1) = 7 * j + 7 by omega, Int.pow_add]; rfl
      have eq : n + ((q % 128 : Nat) : Int) * 2 ^ (7 * j) + ((q / 128 : Nat) : Int) * 2 ^ (7 * (j + 1)) = n + (q : Int) * 2 ^ (7 * j) := by
        rw [ep]
        have hq : (q : Int) = ((q / 128 : Nat) : Int) * 128 + ((q % 128 : Nat) : Int) := by omega
        generalize (2 : Int) ^ (7 * j) = P
        generalize ((q / 128 : Nat) : Int) = a at hq ⊢
        generalize ((q % 128 : Nat) : Int) = c at hq ⊢
        rw [hq, Int.add_mul, Int.mul_assoc, Int.mul_comm 128 P]
        generalize a * (P * 128) = u
        generalize c * P = v
        omega
      rw [e, ih (j + 1) _ (q / 128) tail (by omega) (by rw [eq]; exact hm) (by omega), eq]
      congr 2; omega
theorem uv_rv (f : Nat) : ∀ (j : Nat) (n : Int) (R : List Int) (m : Int) (c : Nat), (∀ v ∈ R, 0 ≤ v ∧ v ≤ 255) → rv f j n R = some (m, c) → ∃ q : Nat, m = n + (q : Int) * 2 ^ (7 * j) ∧ j < c ∧ uv q = R.take (c - j) ∧ (0 < j → 0 < q) := by
  induction f with
  | zero => intro j n R m c _ h; simp [rv] at h
  | succ f ih =>
    intro j n R m c hR h
    cases R with
    | nil => simp [rv] at h
    | cons v R =>
      have hv := hR v (List.mem_cons_self ..)
      simp only [rv] at h
      by_cases h1 : v < 128
      · rw [if_pos h1] at h
        split at h
        · cases h
        · rename_i hn
          injection h with h; injection h with e1 e2
          subst e1 e2
          refine ⟨v.toNat, by rw [show ((v.toNat : Nat) : Int) = v by omega], by omega, ?_, fun hj => ?_⟩
          · rw [uv_small _ (by omega), show j + 1 - j = 1 by omega, show ((v.toNat : Nat) : Int) = v by omega]; rfl
          · by_cases e : v = 0
            · exact absurd (.inl ⟨hj, e⟩) hn
            · omega
      · rw [if_neg h1] at h
        obtain ⟨q, g1, g2, g3, g4⟩ := ih (j + 1) _ R m c (fun v hv => hR v (List.mem_cons_of_mem _ hv)) h
        have hq := g4 (by omega)
        have ep : (2 : Int) ^ (7 * (j + 1)) = 2 ^ (7 * j) * 128 := by rw [show 7 * (j + 1) = 7 * j + 7 by omega, Int.pow_add]; rfl
        refine ⟨128 * q + (v % 128).toNat, ?_, by omega, ?_, fun _ => by omega⟩
        · rw [g1, ep]
          have hx : ((128 * q + (v % 128).toNat : Nat) : Int) = (q : Int) * 128 + v % 128 := by omega
          rw [hx]
          generalize (2 : Int) ^ (7 * j) = P
          generalize v % 128 = c'
          rw [Int.add_mul, Int.mul_assoc (q : Int) 128 P, Int.mul_comm 128 P]
          generalize (q : Int) * (P * 128) = u
          generalize c' * P = v'
          omega
        · rw [uv_big _ (by omega), show (128 * q + (v % 128).toNat) % 128 = (v % 128).toNat by omega, show (128 * q + (v % 128).toNat) / 128 = q by omega, g3, show c - j = (c - (j + 1)) + 1 by omega, List.take_succ_cons]
          congr 1; omega
theorem ru_uv (pre tail : List Int) (n : Int) (h0 : 0 ≤ n) (h1 : n ≤ 1000000000000) : ru (pre ++ (uv n.toNat ++ tail)) (pre.length : Int) = (n, ((pre.length + (uv n.toNat).length : Nat) : Int), true) := by
  unfold ru
  rw [if_neg (by omega), Int.toNat_natCast, List.drop_left, rv_uv 6 0 0 n.toNat tail (uv_len6 _ (by omega)) (by simp; omega) (by omega)]
  simp only [rvo]
  simp; omega
theorem ru_end (b : List Int) : ru b (b.length : Int) = (0, 0, false) := by
  unfold ru
  rw [if_neg (by omega), Int.toNat_natCast, List.drop_length]
  rfl
theorem ru_no (b : List Int) (a n at_ : Int) (h : ru b a = (n, at_, false)) : n = 0 ∧ at_ = 0 := by
  unfold ru at h
  split at h
  · simp at h; omega
  · cases e : rv 6 0 0 (b.drop a.toNat) with
    | none => rw [e] at h; simp [rvo] at h; omega
    | some r => obtain ⟨m, c⟩ := r; rw [e] at h; simp [rvo] at h
theorem ru_yes (b : List Int) (hw : ∀ v ∈ b, 0 ≤ v ∧ v ≤ 255) (a n at_ : Int) (h : ru b a = (n, at_, true)) : 0 ≤ a ∧ a < at_ ∧ at_ ≤ (b.length : Int) ∧ (0 ≤ n ∧ n ≤ 1000000000000) ∧ uv n.toNat = (b.take at_.toNat).drop a.toNat := by
  unfold ru at h
  split at h
  · simp at h
  · cases e : rv 6 0 0 (b.drop a.toNat) with
    | none => rw [e] at h; simp [rvo] at h
    | some r =>
      obtain ⟨m, c⟩ := r
      rw [e] at h
      simp only [rvo, Prod.mk.injEq] at h
      obtain ⟨rfl, h2, _⟩ := h
      have hw' : ∀ v ∈ b.drop a.toNat, 0 ≤ v ∧ v ≤ 255 := fun v hv => hw v (List.mem_of_mem_drop hv)
      obtain ⟨g1, g2, g3, g4, _⟩ := rv_bd 6 0 0 _ m c (by omega) (fun v hv => (hw' v hv).1) e
      obtain ⟨q, p1, p2, p3, _⟩ := uv_rv 6 0 0 _ m c hw' e
      rw [List.length_drop] at g4
      have hq : m.toNat = q := by simp at p1; omega
      refine ⟨by omega, by omega, by omega, ⟨g1, g2⟩, ?_⟩
      rw [hq, p3, List.drop_take, show at_.toNat - a.toNat = c - 0 by omega]
theorem wf_u8 {l : List Int} (h : ∀ x ∈ l, 0 ≤ x ∧ x ≤ 255) : ∀ x ∈ l, (Lit.int .u8 x).wf = true := by
  intro x hx
  have := h x hx
  simp [Lit.wf, IntKind.min, IntKind.max, IntKind.signed, IntKind.bits]; omega
theorem uv_u8 (d : Nat) : ∀ n, n < 128 ^ (d + 1) → ∀ x ∈ uv n, 0 ≤ x ∧ x ≤ 255 := by
  induction d with
  | zero => intro n h x hx; rw [uv_small n (by simpa using h), List.mem_singleton] at hx; simp at h; omega
  | succ d ih =>
    intro n h x hx
    by_cases h1 : n < 128
    · rw [uv_small n h1, List.mem_singleton] at hx; omega
    · rw [uv_big n (by omega)] at hx
      rcases List.mem_cons.1 hx with e | e
      · omega
      · exact ih (n / 128) (by rw [Nat.pow_succ] at h; omega) x e
theorem auv_u8 (b : List Int) (hw : ∀ x ∈ b, 0 ≤ x ∧ x ≤ 255) (n : Int) : ∀ x ∈ auv b n, 0 ≤ x ∧ x ≤ 255 := by
  intro x hx
  unfold auv at hx
  split at hx
  · rcases List.mem_append.1 hx with h | h
    · exact hw x h
    · exact uv_u8 5 n.toNat (by omega) x h
  · exact hw x hx
theorem dAU (b : List Int) (hb : b.length ≤ 1048576) (k : Nat) (hk : b.length + 10 < k) : ∃ (l : List Int) (n : Int), spec_DrawAppendUvarint.f k b = some (l, n) ∧ l.length ≤ 2 ∧ (∀ x ∈ l, 0 ≤ x ∧ x ≤ 255) ∧ In64 n := by
  unfold spec_DrawAppendUvarint.f
  obtain ⟨h0, e0⟩ := l1New_eq b hb k (by omega)
  have c0 : Cur b 0 := by unfold Cur; omega
  rw [e0, Option.bind_some]; simp only []
  obtain ⟨x, i1, k1, e1, g1, g2, g3⟩ := l1Below_eq b hb 0 h0 c0 3
  rw [e1, Option.bind_some]; simp only []
  obtain ⟨l, i2, k2, e2, p1, p2, p3⟩ := l1Bytes_eq b hb x (by omega) i1 k1 g3 k (by omega)
  rw [e2, Option.bind_some]; simp only []
  obtain ⟨n, i3, k3, e3, q1, q3⟩ := l1One_eq b hb i2 k2 p3
  rw [e3, Option.bind_some]
  exact ⟨l, n, rfl, by omega, p2, q1⟩
theorem dRU_l (b : List Int) (hb : b.length ≤ 1048576) : ∀ (d k : Nat) (o : List Int) (c h : Int), Cur b c → o.length + d ≤ 100 → (∀ x ∈ o, 0 ≤ x ∧ x ≤ 255) → d < k → ∃ (l : List Int) (n : Int), spec_DrawReadUvarint.l0 k o d b c h = some (l, n) ∧ l.length ≤ 100 ∧ (∀ x ∈ l, 0 ≤ x ∧ x ≤ 255) := by
  intro d
  induction d with
  | zero =>
    intro k o c h hc ho hw hk
    obtain ⟨k, rfl⟩ := rounds_succ hk
    simp only [spec_DrawReadUvarint.l0]; rw [if_neg (by omega)]
    obtain ⟨x, i1, k1, e1, g1, g2, g3⟩ := l1Below_eq b hb c h hc 4
    rw [e1, Option.bind_some]
    exact ⟨o, _, rfl, by omega, hw⟩
  | succ d ih =>
    intro k o c h hc ho hw hk
    obtain ⟨k, rfl⟩ := rounds_succ hk
    simp only [spec_DrawReadUvarint.l0]; rw [if_pos (by omega)]
    obtain ⟨x, i1, k1, e1, g1, g3⟩ := l1Int_eq b hb c h hc [128, 255, 0, 1, 127] (by decide)
    rw [e1, Option.bind_some]; simp only []
    rw [if_pos (by omega), show wrap64 (((d + 1 : Nat) : Int) - 1) = (d : Int) by rw [wr (by omega) (by omega)]; omega]
    exact ih k _ i1 k1 g3 (by rw [List.length_append, List.length_singleton]; omega) (fun y hy => by
      rcases List.mem_append.1 hy with hy | hy
      · exact hw y hy
      · rw [List.mem_singleton.1 hy]; omega) (by omega)
theorem dRU (b : List Int) (hb : b.length ≤ 1048576) (k : Nat) (hk : b.length + 20 < k) : ∃ (l : List Int) (n : Int), spec_DrawReadUvarint.f k b = some (l, n) ∧ l.length ≤ 100 ∧ (∀ x ∈ l, 0 ≤ x ∧ x ≤ 255) := by
  unfold spec_DrawReadUvarint.f
  obtain ⟨h0, e0⟩ := l1New_eq b hb k (by omega)
  have c0 : Cur b 0 := by unfold Cur; omega
  rw [e0, Option.bind_some]; simp only []
  obtain ⟨x, i1, k1, e1, g3⟩ := l1Once_eq b hb 0 h0 c0 2
  rw [e1, Option.bind_some]; simp only []
  cases x with
  | true =>
    rw [if_pos rfl]
    obtain ⟨l, i2, k2, e2, p1, p2, p3⟩ := l1Bytes_eq b hb 1 (by omega) i1 k1 g3 k (by omega)
    rw [e2, Option.bind_some]; simp only []
    obtain ⟨n, i3, k3, e3, q0, q1, q3⟩ := l1Num_eq b hb i2 k2 p3
    rw [e3, Option.bind_some]; simp only []
    have hlen := auv_len l n
    rw [spec_AU_eq l n (by omega) k (by omega), Option.bind_some]
    exact ⟨_, _, rfl, by omega, auv_u8 l p2 n⟩
  | false =>
    rw [if_neg (by simp)]
    obtain ⟨m, i2, k2, e2, p1, p2, p3⟩ := l1Below_eq b hb i1 k1 g3 8
    rw [e2, Option.bind_some]; simp only []
    have := dRU_l b hb m.toNat k [] i2 k2 p3 (by simp; omega) (fun x hx => by cases hx) (by omega)
    rwa [show ((m.toNat : Nat) : Int) = m by omega] at this
theorem part2 (b : List Int) (hb : b.length ≤ 1048576) (k : Nat) (hk : b.length + 300 < k) : laws_FnVarints.j1 k b = some true := by
  obtain ⟨k, rfl⟩ := rounds_succ hk
  simp only [laws_FnVarints.j1]
  obtain ⟨y, off, e0, hy, hw⟩ := dRU b hb k (by omega)
  rw [e0, Option.bind_some]; simp only []
  rw [impl_RU_eq y (by omega) (wf_u8 hw) off k (by omega), Option.bind_some]
  cases h : ru y off with
  | mk m r =>
    obtain ⟨after, fine⟩ := r
    simp only []
    cases fine with
    | false =>
      obtain ⟨rfl, rfl⟩ := ru_no y off m after h
      rw [if_neg (by simp), spec_RU_eq y (by omega) (wf_u8 hw) off k (by omega), Option.bind_some, h]
      simp
    | true =>
      obtain ⟨g1, g2, g3, g4, g5⟩ := ru_yes y hw off m after h
      rw [if_pos rfl, if_pos (by omega), if_pos g3, if_pos g2, impl_AU_eq [] m (by simp) k (by omega), Option.bind_some, if_pos g1, if_pos (by omega)]
      have e : auv [] m = (y.take after.toNat).drop off.toNat := by unfold auv; rw [if_pos g4, List.nil_append, g5]
      rw [e, laws_sameBytes_eq _ _ (by simp; omega) k (by simp; omega), Option.bind_some]
      simp
theorem FnVarints : laws_FnVarints.Pure := by
  intro b _ _ _
  obtain ⟨K, hK⟩ : ∃ K, K = b.length + 400 := ⟨_, rfl⟩
  refine ⟨K + 1, ?_⟩
  unfold laws_FnVarints.f laws_big.f
  rw [Option.bind_some]
  by_cases hb : b.length ≤ 1048576
  · rw [if_neg (by simp; omega)]
    obtain ⟨l, n, e0, hl, hw, hn⟩ := dAU b hb (K + 1) (by omega)
    have hlen := auv_len l n
    rw [e0, Option.bind_some]; simp only []
    rw [impl_AU_eq l n (by omega) _ (by omega), Option.bind_some, impl_RU_eq (auv l n) (by omega) (wf_u8 (auv_u8 l hw n)) _ _ (by omega), Option.bind_some]
    have p2 := part2 b hb K (by omega)
    by_cases hr : 0 ≤ n ∧ n ≤ 1000000000000
    · have ea : auv l n = l ++ (uv n.toNat ++ []) := by unfold auv; rw [if_pos hr, List.append_nil]
      have er := ru_uv l [] n hr.1 hr.2
      rw [if_neg (by omega), ea, er]
      simp only [laws_FnVarints.j0]
      rw [if_neg (by simp; omega), if_pos trivial, if_pos trivial, if_pos (by simp)]
      exact p2
    · have ea : auv l n = l := by unfold auv; rw [if_neg hr]
      rw [ea, ru_end l]
      have hs : laws_sameBytes.f K l l = some true := by rw [laws_sameBytes_eq l l (by omega) K (by omega)]; simp
      by_cases h0 : n < 0
      · rw [if_pos h0]
        simp only [laws_FnVarints.j0]
        rw [if_pos trivial, if_neg (by simp), hs, Option.bind_some, if_pos rfl]
        exact p2
      · rw [if_neg h0]
        simp only [laws_FnVarints.j0]
        rw [if_pos (by simp; omega), if_neg (by simp), hs, Option.bind_some, if_pos rfl]
        exact p2
  · rw [if_pos (by simp; omega)]
end Go.Proofs.Ytdoackhmdcpfaaa.Pure
