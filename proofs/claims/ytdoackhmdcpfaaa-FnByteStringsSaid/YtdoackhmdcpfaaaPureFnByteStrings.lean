/- Byte strings and lists of integers are decoded from their encodings, for all inputs of the law. Conditions: none. -/
import Derived.Test.YtdoackhmdcpfaaaGFnByteStringsx3
import Derived.OpenShut
namespace Go.Proofs.Ytdoackhmdcpfaaa.Pure
open Go.RowKit Go.Proofs.Ytdoackhmdcpfaaa.GFnByteStrings Go.Proofs.YtdoackhmdcpfaaaW.PrintWords Go.Proofs.YtdoackhmdcpfaaaW.PrintLast
theorem wr {i : Int} (h0 : -9223372036854775808 ≤ i) (h : i ≤ 9223372036854775807) : wrap64 i = i := by unfold wrap64; omega
theorem wrs {i : Nat} (h : i < 9223372036854775807) : wrap64 ((i : Int) + 1) = ((i + 1 : Nat) : Int) := by unfold wrap64; omega
theorem rd_nat (l : List Int) (i : Nat) (h : i < l.length) : rd l (i : Int) = l[i] := by simp [rd, h]
theorem rd_some (l : List Int) (i : Nat) (h : i < l.length) : l[i]? = some (rd l (i : Int)) := by rw [rd_nat l i h, List.getElem?_eq_getElem h]
theorem rounds_succ {d k : Nat} (h : d < k) : ∃ m, k = m + 1 := ⟨k - 1, by omega⟩
theorem laws_sameBytes_l (a b : List Int) (hl : a.length ≤ 1099511627776) (hab : a.length = b.length) : ∀ (d k i : Nat), (∀ j, j < i → a[j]? = b[j]?) → i + d = a.length → d < k → laws_sameBytes.l0 k a b i = some (decide (a = b)) := by
  intro d
  induction d with
  | zero =>
    intro k i hp hd hk
    obtain ⟨k, rfl⟩ := rounds_succ hk
    simp only [laws_sameBytes.l0]; rw [if_neg (by omega)]
    have : a = b := by
      refine List.ext_getElem? fun j => ?_
      by_cases hj : j < i
      · exact hp j hj
      · rw [List.getElem?_eq_none (by omega), List.getElem?_eq_none (by omega)]
    simp [this]
  | succ d ih =>
    intro k i hp hd hk
    obtain ⟨k, rfl⟩ := rounds_succ hk
    simp only [laws_sameBytes.l0]; rw [if_pos (by omega), if_pos (by omega), if_pos (by omega)]
    by_cases e : rd a i = rd b i
    · rw [if_pos e, wrs (by omega)]
      refine ih k (i + 1) ?_ (by omega) (by omega)
      intro j hj
      by_cases e' : j = i
      · subst e'; rw [rd_some a j (by omega), rd_some b j (by omega), e]
      · exact hp j (by omega)
    · rw [if_neg e]
      have : ¬ a = b := fun h => e (by rw [h])
      simp [this]
theorem laws_sameBytes_eq (a b : List Int) (hl : a.length ≤ 1099511627776) (k : Nat) (hk : a.length < k) : laws_sameBytes.f k a b = some (decide (a = b)) := by
  unfold laws_sameBytes.f
  by_cases h : a.length = b.length
  · rw [if_pos (by omega)]
    exact laws_sameBytes_l a b hl h a.length k 0 (fun j hj => by omega) (by omega) hk
  · rw [if_neg (by omega)]
    have : ¬ a = b := fun e => h (by rw [e])
    simp [this]
theorem laws_sameInts_l (a b : List Int) (hl : a.length ≤ 1099511627776) (hab : a.length = b.length) : ∀ (d k i : Nat), (∀ j, j < i → a[j]? = b[j]?) → i + d = a.length → d < k → laws_sameInts.l0 k a b i = some (decide (a = b)) := by
  intro d
  induction d with
  | zero =>
    intro k i hp hd hk
    obtain ⟨k, rfl⟩ := rounds_succ hk
    simp only [laws_sameInts.l0]; rw [if_neg (by omega)]
    have : a = b := by
      refine List.ext_getElem? fun j => ?_
      by_cases hj : j < i
      · exact hp j hj
      · rw [List.getElem?_eq_none (by omega), List.getElem?_eq_none (by omega)]
    simp [this]
  | succ d ih =>
    intro k i hp hd hk
    obtain ⟨k, rfl⟩ := rounds_succ hk
    simp only [laws_sameInts.l0]; rw [if_pos (by omega), if_pos (by omega), if_pos (by omega)]
    by_cases e : rd a i = rd b i
    · rw [if_pos e, wrs (by omega)]
      refine ih k (i + 1) ?_ (by omega) (by omega)
      intro j hj
      by_cases e' : j = i
      · subst e'; rw [rd_some a j (by omega), rd_some b j (by omega), e]
      · exact hp j (by omega)
    · rw [if_neg e]
      have : ¬ a = b := fun h => e (by rw [h])
      simp [this]
theorem laws_sameInts_eq (a b : List Int) (hl : a.length ≤ 1099511627776) (k : Nat) (hk : a.length < k) : laws_sameInts.f k a b = some (decide (a = b)) := by
  unfold laws_sameInts.f
  by_cases h : a.length = b.length
  · rw [if_pos (by omega)]
    exact laws_sameInts_l a b hl h a.length k 0 (fun j hj => by omega) (by omega) hk
  · rw [if_neg (by omega)]
    have : ¬ a = b := fun e => h (by rw [e])
    simp [this]
theorem in_i64 {n : Int} (h : (Lit.int .i64 n).wf = true) : -9223372036854775808 ≤ n ∧ n ≤ 9223372036854775807 := bounds_i64 h
theorem in_u8 {n : Int} (h : (Lit.int .u8 n).wf = true) : 0 ≤ n ∧ n ≤ 255 := bounds_u8 h
theorem tmod_cases (a b : Int) (hb : 0 < b) : (0 ≤ a.tmod b ∧ a.tmod b = a % b) ∨ (a.tmod b < 0 ∧ a.tmod b + b = a % b) := by
  have h1 := Int.emod_nonneg a (show b ≠ 0 by omega)
  have h2 := Int.emod_lt_of_pos a hb
  rw [Int.tmod_eq_emod]
  split
  · left; omega
  · rename_i hn
    have : a % b ≠ 0 := fun e => hn (.inr (Int.dvd_of_emod_eq_zero e))
    right; omega
theorem tmod_nn (a b : Int) (ha : 0 ≤ a) : a.tmod b = a % b := by rw [Int.tmod_eq_emod, if_pos (.inl ha)]; omega
theorem and255 (y : Int) : 0 ≤ Go.bits .and .i64 y 255 ∧ Go.bits .and .i64 y 255 ≤ 255 := by
  have h : ((BitVec.ofInt 64 y &&& BitVec.ofInt 64 255).toNat) ≤ 255 := by
    rw [BitVec.toNat_and]
    exact Nat.and_le_right
  have e : Go.bits .and .i64 y 255 = IntKind.i64.wrap ((BitVec.ofInt 64 y &&& BitVec.ofInt 64 255).toNat : Int) := rfl
  rw [e]
  generalize (BitVec.ofInt 64 y &&& BitVec.ofInt 64 255).toNat = m at h
  rw [IntKind.wrap_i64]; omega
theorem l1New_l (b : List Int) (_hb : b.length ≤ 1048576) : ∀ (d k i : Nat) (h : Int), i + d = b.length → d < k → ∃ h', spec_l1New.l0 k b h i = some (b, 0, h') := by
  intro d
  induction d with
  | zero =>
    intro k i h hd hk
    obtain ⟨k, rfl⟩ := rounds_succ hk
    simp only [spec_l1New.l0]; rw [if_neg (by omega)]
    exact ⟨h, rfl⟩
  | succ d ih =>
    intro k i h hd hk
    obtain ⟨k, rfl⟩ := rounds_succ hk
    simp only [spec_l1New.l0]; rw [if_pos (by omega)]
    by_cases h4 : (i : Int) < 4000
    · rw [if_pos h4, if_pos (by omega), wrs (by omega)]
      exact ih k (i + 1) _ (by omega) (by omega)
    · rw [if_neg h4]
      exact ⟨h, rfl⟩
theorem l1New_eq (b : List Int) (hb : b.length ≤ 1048576) (k : Nat) (hk : b.length < k) : ∃ h', spec_l1New.f k b = some (b, 0, h') :=
  l1New_l b hb b.length k 0 _ (by omega) hk
def Cur (b : List Int) (i : Int) : Prop := 0 ≤ i ∧ i ≤ (b.length : Int)
theorem l1Byte_eq (b : List Int) (hb : b.length ≤ 1048576) (i h : Int) (hc : Cur b i) : ∃ x i' h', spec_l1Byte.f b i h = some (x, i', h') ∧ 0 ≤ x ∧ x ≤ 255 ∧ Cur b i' := by
  unfold Cur at *
  unfold spec_l1Byte.f
  by_cases h1 : i < (b.length : Int)
  · rw [if_pos h1, if_pos hc.1]
    exact ⟨_, _, _, rfl, (and255 _).1, (and255 _).2, by rw [wr (by omega) (by omega)]; omega⟩
  · rw [if_neg h1]
    exact ⟨_, _, _, rfl, (and255 _).1, (and255 _).2, hc⟩
theorem l1Below_eq (b : List Int) (hb : b.length ≤ 1048576) (i h : Int) (hc : Cur b i) (n : Int) : ∃ x i' h', spec_l1Below.f b i h n = some (x, i', h') ∧ 0 ≤ x ∧ (x < n ∨ (n ≤ 0 ∧ x = 0)) ∧ Cur b i' := by
  unfold spec_l1Below.f
  by_cases h0 : n ≤ 0
  · rw [if_pos h0]; exact ⟨0, i, h, rfl, by omega, .inr ⟨h0, rfl⟩, hc⟩
  · rw [if_neg h0]
    by_cases h1 : n ≤ 256
    · obtain ⟨x, i1, k1, e, g1, g2, g3⟩ := l1Byte_eq b hb i h hc
      rw [if_pos h1, e, Option.bind_some, if_neg (by omega)]
      simp only []
      rw [tmod_nn _ _ g1]
      exact ⟨_, i1, k1, rfl, Int.emod_nonneg _ (by omega), .inl (Int.emod_lt_of_pos _ (by omega)), g3⟩
    · obtain ⟨x, i1, k1, e, g1, g2, g3⟩ := l1Byte_eq b hb i h hc
      obtain ⟨y, i2, k2, e2, p1, p2, p3⟩ := l1Byte_eq b hb i1 k1 g3
      obtain ⟨z, i3, k3, e3, q1, q2, q3⟩ := l1Byte_eq b hb i2 k2 p3
      rw [if_neg h1, e, Option.bind_some]
      simp only []
      rw [e2, Option.bind_some]
      simp only []
      rw [e3, Option.bind_some, if_neg (by omega)]
      simp only []
      rw [wr (i := x * 65536) (by omega) (by omega), wr (i := y * 256) (by omega) (by omega), wr (i := x * 65536 + _) (by omega) (by omega), wr (by omega) (by omega), tmod_nn _ _ (by omega)]
      exact ⟨_, i3, k3, rfl, Int.emod_nonneg _ (by omega), .inl (Int.emod_lt_of_pos _ (by omega)), q3⟩
theorem l1Bytes_l (b : List Int) (hb : b.length ≤ 1048576) (n : Int) (hn : n ≤ 1048576) : ∀ (d k i : Nat) (o : List Int) (c h : Int), Cur b c → (i : Int) + d = n ∨ (d = 0 ∧ n ≤ i) → o.length = i → (∀ x ∈ o, 0 ≤ x ∧ x ≤ 255) → d < k → ∃ l c' h', spec_l1Bytes.l0 k n o i b c h = some (l, c', h') ∧ l.length = i + d ∧ (∀ x ∈ l, 0 ≤ x ∧ x ≤ 255) ∧ Cur b c' := by
  intro d
  induction d with
  | zero =>
    intro k i o c h hc hd ho hw hk
    obtain ⟨k, rfl⟩ := rounds_succ hk
    simp only [spec_l1Bytes.l0]; rw [if_neg (by omega)]
    exact ⟨o, c, h, rfl, by omega, hw, hc⟩
  | succ d ih =>
    intro k i o c h hc hd ho hw hk
    obtain ⟨k, rfl⟩ := rounds_succ hk
    obtain ⟨x, c1, h1, e, g1, g2, g3⟩ := l1Byte_eq b hb c h hc
    simp only [spec_l1Bytes.l0]; rw [if_pos (by omega), e, Option.bind_some, if_pos (by omega), wrs (by omega)]
    obtain ⟨l, c2, h2, e2, p1, p2, p3⟩ := ih k (i + 1) (o ++ [x % 256]) c1 h1 g3 (by omega) (by simp [ho]) (fun y hy => by
      rcases List.mem_append.1 hy with hy | hy
      · exact hw y hy
      · rw [List.mem_singleton.1 hy]; omega) (by omega)
    exact ⟨l, c2, h2, e2, by omega, p2, p3⟩
theorem l1Bytes_eq (b : List Int) (hb : b.length ≤ 1048576) (n : Int) (hn : n ≤ 1048576) (c h : Int) (hc : Cur b c) (k : Nat) (hk : n.toNat < k) : ∃ l c' h', spec_l1Bytes.f k b c h n = some (l, c', h') ∧ l.length = n.toNat ∧ (∀ x ∈ l, 0 ≤ x ∧ x ≤ 255) ∧ Cur b c' := by
  obtain ⟨l, c', h', e, h1, h2, h3⟩ := l1Bytes_l b hb n hn n.toNat k 0 [] c h hc (by omega) rfl (fun x hx => by cases hx) hk
  exact ⟨l, c', h', e, by omega, h2, h3⟩
theorem wraps_i64 (n : Int) (h₀ : 0 ≤ n) (h₁ : n < 2 ^ 63) : IntKind.i64.wrap n = n := by rw [IntKind.wrap_i64]; omega
theorem and127 (n : Int) (h0 : 0 ≤ n) (h1 : n < 9223372036854775808) : Go.bits .and .i64 n 127 = n % 128 := bits_mask .i64 63 (by decide) wraps_i64 7 (by decide) n h0 h1
theorem and127u (n : Int) (h0 : 0 ≤ n) (h1 : n < 256) : Go.bits .and .u8 n 127 = n % 128 := bits_mask .u8 8 (by decide) wraps_u8 7 (by decide) n h0 h1
theorem or_add (k : IntKind) (j : Nat) (hj : j ≤ k.bits) (hk : ∀ n : Int, 0 ≤ n → n < 2 ^ j → k.wrap n = n) (i : Nat)
    (x y : Int) (hx₀ : 0 ≤ x) (hx : x % 2 ^ i = 0) (hx₁ : x < 2 ^ j) (hy₀ : 0 ≤ y) (hy : y < 2 ^ i) (hy₁ : y < 2 ^ j) : Go.bits .or k y x = y + x := by
  have h := bits_join k j hj hk i x y hx₀ hx hx₁ hy₀ hy hy₁
  rw [Int.add_comm, ← h]
  obtain ⟨a, rfl⟩ := Int.eq_ofNat_of_zero_le hx₀
  obtain ⟨b, rfl⟩ := Int.eq_ofNat_of_zero_le hy₀
  have ha : a < 2 ^ j := by exact_mod_cast hx₁
  have hb : b < 2 ^ j := by exact_mod_cast hy₁
  rw [(bits_nat k j hj hk b a hb ha).2, (bits_nat k j hj hk a b ha hb).2, Nat.or_comm]
theorem or128 (y : Int) (h0 : 0 ≤ y) (h1 : y < 128) : Go.bits .or .i64 y 128 = y + 128 := or_add .i64 63 (by decide) wraps_i64 7 128 y (by decide) (by decide) (by decide) h0 h1 (by omega)
theorem or128u (y : Int) (h0 : 0 ≤ y) (h1 : y < 128) : Go.bits .or .u8 y 128 = y + 128 := or_add .u8 8 (by decide) wraps_u8 7 128 y (by decide) (by decide) (by decide) h0 h1 (by omega)
def uv (n : Nat) : List Int := if _h : n < 128 then [(n : Int)] else (((n % 128 : Nat) : Int) + 128) :: uv (n / 128)
termination_by n
decreasing_by omega
theorem uv_small (n : Nat) (h : n < 128) : uv n = [(n : Int)] := by rw [uv]; simp [h]
theorem uv_big (n : Nat) (h : 128 ≤ n) : uv n = (((n % 128 : Nat) : Int) + 128) :: uv (n / 128) := by rw [uv]; rw [dif_neg (by omega)]
theorem uv_length (d : Nat) : ∀ n, n < 128 ^ (d + 1) → (uv n).length ≤ d + 1 := by
  induction d with
  | zero => intro n h; rw [uv_small n (by simpa using h)]; simp
  | succ d ih =>
    intro n h
    by_cases h1 : n < 128
    · rw [uv_small n h1]; simp
    · rw [uv_big n (by omega), List.length_cons]
      have := ih (n / 128) (by rw [Nat.pow_succ] at h; omega)
      omega
theorem uv_len6 (n : Nat) (h : n ≤ 1000000000000) : (uv n).length ≤ 6 := uv_length 5 n (by omega)
def auv (b : List Int) (n : Int) : List Int := if 0 ≤ n ∧ n ≤ 1000000000000 then b ++ uv n.toNat else b
theorem auv_len (b : List Int) (n : Int) : (auv b n).length ≤ b.length + 6 := by
  unfold auv
  split
  · have := uv_len6 n.toNat (by omega)
    rw [List.length_append]; omega
  · omega
theorem impl_InRange_eq (a b c : Int) : impl_InRange.f a b c = some (decide (b ≤ a ∧ a ≤ c)) := by
  unfold impl_InRange.f; by_cases h : b ≤ a <;> simp [h]
theorem impl_AU_l (d : Nat) : ∀ (k n : Nat) (out : List Int), n < 128 ^ (d + 1) → n < 9223372036854775808 → out.length + d + 1 < 140737488355328 → d < k → impl_AppendUvarint.l0 k n out = some (out ++ uv n) := by
  induction d with
  | zero =>
    intro k n out hn hn2 ho hk
    obtain ⟨k, rfl⟩ := rounds_succ hk
    simp at hn
    simp only [impl_AppendUvarint.l0]; rw [if_neg (by omega), if_pos (by omega), uv_small n (by omega)]
    congr 3; omega
  | succ d ih =>
    intro k n out hn hn2 ho hk
    obtain ⟨k, rfl⟩ := rounds_succ hk
    simp only [impl_AppendUvarint.l0]
    by_cases h : n < 128
    · rw [if_neg (by omega), if_pos (by omega), uv_small n (by omega)]
      congr 3; omega
    · rw [if_pos (by omega), if_pos (by omega), and127 _ (by omega) (by omega), or128u _ (by omega) (by omega), uv_big n (by omega)]
      have := ih k (n / 128) (out ++ [((n : Int) % 128) % 256 + 128]) (by rw [Nat.pow_succ] at hn; omega) (by omega) (by rw [List.length_append, List.length_singleton]; omega) (by omega)
      rw [show ((n : Int) / 128) = ((n / 128 : Nat) : Int) by omega, this, List.append_assoc, List.singleton_append]
      congr 3; omega
theorem impl_AU_eq (b : List Int) (n : Int) (hb : b.length ≤ 1099511627776) (k : Nat) (hk : 6 < k) : impl_AppendUvarint.f k b n = some (auv b n) := by
  unfold impl_AppendUvarint.f auv
  simp only [Option.bind_some, List.nil_append, List.length_nil]
  rw [if_pos (by omega), impl_InRange_eq, Option.bind_some]
  by_cases h : 0 ≤ n ∧ n ≤ 1000000000000
  · rw [if_pos (by simp [h]), if_pos h]
    have := impl_AU_l 5 k n.toNat b (by omega) (by omega) (by omega) (by omega)
    rwa [show ((n.toNat : Nat) : Int) = n by omega] at this
  · rw [if_neg (by simp; omega), if_neg h]
theorem take_rd (l : List Int) (i : Nat) (h : i < l.length) : l.take (i + 1) = l.take i ++ [rd l i] := by rw [rd_nat l i h, List.take_add_one, List.getElem?_eq_getElem h]; rfl
theorem wrb (l : List Int) (hw : ∀ x ∈ l, (Lit.int .u8 x).wf = true) (i : Nat) (h : i < l.length) : 0 ≤ rd l i ∧ rd l i ≤ 255 := by
  rw [rd_nat l i h]; exact in_u8 (hw _ (List.getElem_mem h))
theorem orshl (n v : Int) (s : Nat) (y : Int) (hy : y = s) (hs : s ≤ 35) (h0 : 0 ≤ n) (h1 : n < 2 ^ s) (v0 : 0 ≤ v) (v1 : v < 128) : Go.bits .or .i64 n (shl .i64 v y) = n + v * 2 ^ s := by
  have hp : (2 : Int) ^ s ≤ 2 ^ 35 := by exact_mod_cast Nat.pow_le_pow_right (show 2 > 0 by omega) hs
  have hp0 : (0 : Int) < 2 ^ s := by exact_mod_cast Nat.two_pow_pos s
  have hv0 : 0 ≤ v * 2 ^ s := Int.mul_nonneg v0 (by omega)
  have hv1 : v * 2 ^ s ≤ 127 * 2 ^ 35 := Int.le_trans (Int.mul_le_mul_of_nonneg_right (show v ≤ 127 by omega) (by omega)) (Int.mul_le_mul_of_nonneg_left hp (by omega))
  unfold shl
  rw [hy, Int.toNat_natCast, Nat.min_eq_left (by simp [IntKind.bits]; omega), wraps_i64 _ hv0 (by omega)]
  exact or_add .i64 63 (by decide) wraps_i64 s (v * 2 ^ s) n hv0 (Int.mul_emod_left v _) (by omega) h0 h1 (by omega)
theorem wra (a j : Nat) (h : a + j ≤ 9223372036854775807) : wrap64 ((a : Int) + (j : Int)) = ((a + j : Nat) : Int) := by rw [wr (by omega) (by omega)]; omega
theorem wr7 (j : Nat) (h : j ≤ 1000) : wrap64 (7 * (j : Int)) = ((7 * j : Nat) : Int) := by rw [wr (by omega) (by omega)]; omega
def rv : Nat → Nat → Int → List Int → Option (Int × Nat)
  | 0, _, _, _ => none
  | _ + 1, _, _, [] => none
  | f + 1, j, n, v :: R => if v < 128 then (if (0 < j ∧ v = 0) ∨ n + v * 2 ^ (7 * j) > 1000000000000 then none else some (n + v * 2 ^ (7 * j), j + 1)) else rv f (j + 1) (n + (v % 128) * 2 ^ (7 * j)) R
def rvo (a : Nat) : Option (Int × Nat) → Int × Int × Bool
  | none => (0, 0, false)
  | some (n, c) => (n, ((a + c : Nat) : Int), true)
def ru (b : List Int) (a : Int) : Int × Int × Bool := if a < 0 then (0, 0, false) else rvo a.toNat (rv 6 0 0 (b.drop a.toNat))
theorem pow_step (j : Nat) (n v : Int) (h1 : n < 2 ^ (7 * j)) (v1 : v < 128) : n + v * 2 ^ (7 * j) < 2 ^ (7 * (j + 1)) := by
  have hp0 : (0 : Int) < 2 ^ (7 * j) := by exact_mod_cast Nat.two_pow_pos (7 * j)
  have e : (2 : Int) ^ (7 * (j + 1)) = 2 ^ (7 * j) * 128 := by rw [show 7 * (j + 1) = 7 * j + 7 by omega, Int.pow_add]; rfl
  have : v * 2 ^ (7 * j) ≤ 127 * 2 ^ (7 * j) := Int.mul_le_mul_of_nonneg_right (by omega) (by omega)
  rw [e]; omega
theorem nn_step (j : Nat) (n v : Int) (h0 : 0 ≤ n) (v0 : 0 ≤ v) : 0 ≤ n + v * 2 ^ (7 * j) := by
  have hp0 : (0 : Int) < 2 ^ (7 * j) := by exact_mod_cast Nat.two_pow_pos (7 * j)
  have := Int.mul_nonneg v0 (show (0 : Int) ≤ 2 ^ (7 * j) by omega)
  omega
theorem rv_bd (f : Nat) : ∀ (j : Nat) (n : Int) (R : List Int) (m : Int) (c : Nat), 0 ≤ n → (∀ v ∈ R, 0 ≤ v) → rv f j n R = some (m, c) → 0 ≤ m ∧ m ≤ 1000000000000 ∧ j < c ∧ c ≤ j + R.length ∧ c ≤ j + f := by
  induction f with
  | zero => intro j n R m c _ _ h; simp [rv] at h
  | succ f ih =>
    intro j n R m c h0 hR h
    cases R with
    | nil => simp [rv] at h
    | cons v R =>
      have hv := hR v (List.mem_cons_self ..)
      simp only [rv] at h
      split at h
      · split at h
        · cases h
        · rename_i hn
          injection h with h; injection h with h1 h2
          subst h1 h2
          have := nn_step j n v h0 hv
          simp only [List.length_cons]
          refine ⟨this, ?_, by omega, by omega, by omega⟩
          by_cases e : n + v * 2 ^ (7 * j) > 1000000000000
          · exact absurd (.inr e) hn
          · omega
      · have := ih (j + 1) _ R m c (nn_step j n (v % 128) h0 (by omega)) (fun v hv => hR v (List.mem_cons_of_mem _ hv)) h
        simp only [List.length_cons]; omega
theorem dropn_nil (b : List Int) (i : Nat) (h : b.drop i = []) : b.length ≤ i := by
  have := congrArg List.length h
  simp at this; omega
theorem dropn_cons (b : List Int) (i : Nat) (c : Int) (t : List Int) (h : b.drop i = c :: t) : i < b.length ∧ rd b i = c ∧ b.drop (i + 1) = t := by
  have hl := congrArg List.length h
  simp at hl
  have hi : i < b.length := by omega
  rw [List.drop_eq_getElem_cons hi, ← rd_nat b i hi] at h
  exact ⟨hi, by injection h, by injection h⟩
theorem impl_RU_l (b : List Int) (hb : b.length ≤ 140737488351232) (hw : ∀ x ∈ b, (Lit.int .u8 x).wf = true) (a : Nat) : ∀ (f k j : Nat) (n : Int) (R : List Int), j + f = 6 → b.drop (a + j) = R → 0 ≤ n → n < 2 ^ (7 * j) → a + j ≤ b.length → f < k → impl_ReadUvarint.l0 k b a n j = some (rvo a (rv f j n R)) := by
  intro f
  induction f with
  | zero =>
    intro k j n R hj hR h0 h1 ha hk
    obtain ⟨k, rfl⟩ := rounds_succ hk
    simp only [impl_ReadUvarint.l0]; rw [if_neg (by omega)]; rfl
  | succ f ih =>
    intro k j n R hj hR h0 h1 ha hk
    obtain ⟨k, rfl⟩ := rounds_succ hk
    simp only [impl_ReadUvarint.l0]; rw [if_pos (by omega), wra a j (by omega)]
    cases R with
    | nil =>
      have := dropn_nil b _ hR
      rw [if_pos (by omega)]; rfl
    | cons v R =>
      obtain ⟨g1, g2, g3⟩ := dropn_cons b _ v R hR
      have hv : 0 ≤ v ∧ v ≤ 255 := by rw [← g2]; exact wrb b hw _ g1
      rw [if_neg (by omega), if_pos (by omega), if_pos (by omega), wr7 j (by omega), if_pos (by omega), g2, and127u v hv.1 (by omega), wr (i := v % 128) (by omega) (by omega), orshl n (v % 128) (7 * j) _ rfl (by omega) h0 h1 (by omega) (by omega)]
      simp only [rv]
      by_cases h128 : v < 128
      · have hm : v % 128 = v := by omega
        rw [if_pos h128, if_pos h128, show wrap64 (((a + j : Nat) : Int) + 1) = ((a + (j + 1) : Nat) : Int) from wrs (by omega), hm]
        clear ih h1 hm
        generalize n + v * 2 ^ (7 * j) = P
        by_cases hj0 : 0 < j
        · have hj1 : (j : Int) > 0 := by omega
          rw [if_pos hj1]
          by_cases hv0 : v = 0
          · have hc : (0 < j ∧ v = 0) ∨ P > 1000000000000 := .inl ⟨hj0, hv0⟩
            rw [if_pos hv0, if_pos hc]; rfl
          · rw [if_neg hv0]
            by_cases hm : P > 1000000000000
            · have hc : (0 < j ∧ v = 0) ∨ P > 1000000000000 := .inr hm
              rw [if_pos hm, if_pos hc]; rfl
            · have hc : ¬ ((0 < j ∧ v = 0) ∨ P > 1000000000000) := fun h => h.elim (fun h => hv0 h.2) hm
              rw [if_neg hm, if_neg hc]; rfl
        · have hj1 : ¬ ((j : Int) > 0) := by omega
          rw [if_neg hj1]
          by_cases hm : P > 1000000000000
          · have hc : (0 < j ∧ v = 0) ∨ P > 1000000000000 := .inr hm
            rw [if_pos hm, if_pos hc]; rfl
          · have hc : ¬ ((0 < j ∧ v = 0) ∨ P > 1000000000000) := fun h => h.elim (fun h => hj0 h.1) hm
            rw [if_neg hm, if_neg hc]; rfl
      · rw [if_neg h128, if_neg h128, wrs (by omega)]
        exact ih k (j + 1) _ R (by omega) (by rw [show a + (j + 1) = a + j + 1 from rfl]; exact g3) (nn_step j n _ h0 (by omega)) (pow_step j n _ h1 (by omega)) (by omega) (by omega)
theorem impl_RU_eq (b : List Int) (hb : b.length ≤ 140737488351232) (hw : ∀ x ∈ b, (Lit.int .u8 x).wf = true) (a : Int) (k : Nat) (hk : 7 < k) : impl_ReadUvarint.f k b a = some (ru b a) := by
  obtain ⟨k, rfl⟩ := rounds_succ hk
  unfold impl_ReadUvarint.f ru
  by_cases h0 : a < 0
  · rw [if_pos h0, if_pos h0]; simp [impl_ReadUvarint.j0]
  · rw [if_neg h0, if_neg h0]
    simp only [impl_ReadUvarint.j0]
    by_cases h1 : a ≥ (b.length : Int)
    · rw [if_pos (by simp [h1]), List.drop_eq_nil_of_le (by omega)]; rfl
    · rw [if_neg (by simp; omega)]
      have := impl_RU_l b hb hw a.toNat 6 k 0 0 (b.drop a.toNat) rfl rfl (by omega) (by simp) (by omega) (by omega)
      rwa [show ((a.toNat : Nat) : Int) = a by omega] at this
theorem ru_bd (b : List Int) (hw : ∀ x ∈ b, (Lit.int .u8 x).wf = true) (a n at_ : Int) (h : ru b a = (n, at_, true)) : 0 ≤ n ∧ n ≤ 1000000000000 ∧ 0 ≤ at_ ∧ at_ ≤ (b.length : Int) := by
  unfold ru at h
  split at h
  · simp at h
  · rename_i h0
    cases e : rv 6 0 0 (b.drop a.toNat) with
    | none => rw [e] at h; simp [rvo] at h
    | some r =>
      obtain ⟨m, c⟩ := r
      rw [e] at h
      simp only [rvo, Prod.mk.injEq] at h
      obtain ⟨rfl, h2, _⟩ := h
      obtain ⟨g1, g2, g3, g4, _⟩ := rv_bd 6 0 0 _ m c (by omega) (fun v hv => (in_u8 (hw v (List.mem_of_mem_drop hv))).1) e
      rw [List.length_drop] at g4
      omega
def rb (b : List Int) (a m : Int) : List Int × Int × Bool :=
  match ru b a with
  | (n, at_, true) => if n > m ∨ n > (b.length : Int) - at_ then ([], 0, false) else ((b.take (at_ + n).toNat).drop at_.toNat, at_ + n, true)
  | _ => ([], 0, false)
theorem rb_len (b : List Int) (a m : Int) : (rb b a m).1.length ≤ b.length := by
  unfold rb
  split
  · split
    · simp
    · simp; omega
  · simp
theorem impl_RB_eq (b : List Int) (hb : b.length ≤ 1048576) (hw : ∀ x ∈ b, (Lit.int .u8 x).wf = true) (a m : Int) (k : Nat) (hk : 14 < k) : impl_ReadBytes.f k b a m = some (rb b a m) := by
  unfold impl_ReadBytes.f rb
  rw [impl_RU_eq b (by omega) hw a k (by omega), Option.bind_some]
  cases h : ru b a with
  | mk n r =>
    obtain ⟨at_, ok⟩ := r
    cases ok with
    | false => simp
    | true =>
      obtain ⟨h1, h2, h3, h4⟩ := ru_bd b hw a n at_ h
      have e1 : wrap64 ((b.length : Int) - at_) = (b.length : Int) - at_ := wr (by omega) (by omega)
      have e2 : wrap64 (at_ + n) = at_ + n := wr (by omega) (by omega)
      simp only [if_true, e1, e2, Option.bind_some, List.nil_append, List.length_nil]
      by_cases g1 : n > m
      · rw [if_pos g1, if_pos (.inl g1)]
      · rw [if_neg g1]
        by_cases g2 : n > (b.length : Int) - at_
        · rw [if_pos g2, if_pos (.inr g2)]
        · rw [if_neg g2, if_pos (by omega), if_pos (by omega), if_pos (by omega), if_pos (by simp; omega), if_neg (by omega)]
def dil (b : List Int) : Nat → Int → List Int → List Int × Int × Bool
  | 0, a, o => (o, a, true)
  | c + 1, a, o => match ru b a with
    | (n, at_, true) => dil b c at_ (o ++ [n])
    | _ => ([], 0, false)
def di (b : List Int) (a c : Int) : List Int × Int × Bool := if (0 ≤ c ∧ c ≤ 100) ∧ (0 ≤ a ∧ a ≤ (b.length : Int)) then dil b c.toNat a [] else ([], 0, false)
theorem dil_len (b : List Int) : ∀ (c : Nat) (a : Int) (o : List Int), (dil b c a o).1.length ≤ o.length + c := by
  intro c
  induction c with
  | zero => intro a o; simp [dil]
  | succ c ih =>
    intro a o
    simp only [dil]
    split
    · rename_i n at_ _
      have := ih at_ (o ++ [n])
      rw [List.length_append, List.length_singleton] at this
      omega
    · simp
theorem di_len (b : List Int) (a c : Int) : (di b a c).1.length ≤ 100 := by
  unfold di
  split
  · have := dil_len b c.toNat a []
    simp at this; omega
  · simp
theorem impl_DI_l (b : List Int) (hb : b.length ≤ 1048576) (hw : ∀ x ∈ b, (Lit.int .u8 x).wf = true) (c : Int) (hc : c ≤ 100) : ∀ (d k i : Nat) (a : Int) (o : List Int), (i : Int) + d = c → o.length ≤ i → d + 15 < k → impl_DecodeInts.l0 k b a o c i = some (dil b d a o) := by
  intro d
  induction d with
  | zero =>
    intro k i a o hd ho hk
    obtain ⟨k, rfl⟩ := rounds_succ hk
    simp only [impl_DecodeInts.l0]; rw [if_neg (by omega)]; rfl
  | succ d ih =>
    intro k i a o hd ho hk
    obtain ⟨k, rfl⟩ := rounds_succ hk
    simp only [impl_DecodeInts.l0]; rw [if_pos (by omega), impl_RU_eq b (by omega) hw a k (by omega), Option.bind_some]
    simp only [dil]
    cases h : ru b a with
    | mk n r =>
      obtain ⟨at_, ok⟩ := r
      cases ok with
      | false => simp
      | true =>
        simp only [if_true]
        rw [if_pos (by omega), wrs (by omega)]
        exact ih k (i + 1) at_ (o ++ [n]) (by omega) (by rw [List.length_append, List.length_singleton]; omega) (by omega)
theorem impl_DI_eq (b : List Int) (hb : b.length ≤ 1048576) (hw : ∀ x ∈ b, (Lit.int .u8 x).wf = true) (a c : Int) (k : Nat) (hk : 120 < k) : impl_DecodeInts.f k b a c = some (di b a c) := by
  obtain ⟨k, rfl⟩ := rounds_succ hk
  unfold impl_DecodeInts.f di
  rw [impl_InRange_eq, Option.bind_some, impl_InRange_eq]
  simp only [impl_DecodeInts.j0, Option.bind_some]
  by_cases h1 : 0 ≤ c ∧ c ≤ 100
  · rw [if_pos (by simp [h1])]
    by_cases h2 : 0 ≤ a ∧ a ≤ (b.length : Int)
    · rw [if_neg (by simp [h2]), if_pos ⟨h1, h2⟩]
      exact impl_DI_l b hb hw c h1.2 c.toNat k 0 a [] (by omega) (by simp) (by omega)
    · rw [if_pos (by simp only [h2, decide_false, Bool.not_false]), if_neg (fun h => h2 h.2)]
  · rw [if_neg (by simp only [h1, decide_false, Bool.false_eq_true, not_false_eq_true]), if_pos True.intro, if_neg (fun h => h1 h.1)]
def ei (l : List Int) : List Int := l.foldl auv []
theorem eif_len (l : List Int) : ∀ o, (l.foldl auv o).length ≤ o.length + 6 * l.length := by
  induction l with
  | nil => intro o; simp
  | cons x l ih =>
    intro o
    have h1 := ih (auv o x)
    have h2 := auv_len o x
    rw [List.foldl_cons, List.length_cons]
    omega
theorem ei_length (l : List Int) : (ei l).length ≤ 6 * l.length := by
  have := eif_len l []
  simpa [ei] using this
theorem drop_rd' (l : List Int) (i : Nat) (h : i < l.length) : l.drop i = rd l i :: l.drop (i + 1) := by rw [rd_nat l i h]; exact List.drop_eq_getElem_cons h
theorem impl_EI_l (l : List Int) (hl : l.length ≤ 1048576) : ∀ (d k i : Nat) (o : List Int), o.length ≤ 6 * i → i + d = l.length → d + 7 < k → impl_EncodeInts.l0 k o l (l.length : Int) i = some ((l.drop i).foldl auv o) := by
  intro d
  induction d with
  | zero =>
    intro k i o ho hd hk
    obtain ⟨k, rfl⟩ := rounds_succ hk
    simp only [impl_EncodeInts.l0]; rw [if_neg (by omega), List.drop_eq_nil_of_le (by omega)]; rfl
  | succ d ih =>
    intro k i o ho hd hk
    obtain ⟨k, rfl⟩ := rounds_succ hk
    have ha := auv_len o (rd l i)
    simp only [impl_EncodeInts.l0]; rw [if_pos (by omega), if_pos (by omega), if_pos (by omega), impl_AU_eq _ _ (by omega) k (by omega), Option.bind_some, wrs (by omega), drop_rd' l i (by omega)]
    exact ih k (i + 1) _ (by omega) (by omega) (by omega)
theorem impl_EI_eq (l : List Int) (hl : l.length ≤ 1048576) (k : Nat) (hk : l.length + 7 < k) : impl_EncodeInts.f k l = some (ei l) := by
  have := impl_EI_l l hl l.length k 0 [] (by simp) (by omega) hk
  simpa [impl_EncodeInts.f, ei] using this
theorem rv_uv (f : Nat) : ∀ (j : Nat) (n : Int) (q : Nat) (tail : List Int), (uv q).length ≤ f → n + (q : Int) * 2 ^ (7 * j) ≤ 1000000000000 → (0 < j → 0 < q) → rv f j n (uv q ++ tail) = some (n + (q : Int) * 2 ^ (7 * j), j + (uv q).length) := by
  induction f with
  | zero =>
    intro j n q tail hf _ _
    by_cases h : q < 128
    · rw [uv_small q h] at hf; simp at hf
    · rw [uv_big q (by omega)] at hf; simp at hf
  | succ f ih =>
    intro j n q tail hf hm hj
    by_cases h : q < 128
    · rw [uv_small q h]
      simp only [List.singleton_append, rv, List.length_singleton]
      rw [if_pos (by omega)]
      have hc : ¬ ((0 < j ∧ (q : Int) = 0) ∨ n + (q : Int) * 2 ^ (7 * j) > 1000000000000) := by
        rintro (⟨h1, h2⟩ | h1)
        · have := hj h1; omega
        · exact absurd h1 (Int.not_lt.2 hm)
      rw [if_neg hc]
    · rw [uv_big q (by omega)] at hf ⊢
      simp only [List.cons_append, rv, List.length_cons] at hf ⊢
      rw [if_neg (by omega)]
      have e : (((q % 128 : Nat) : Int) + 128) % 128 = ((q % 128 : Nat) : Int) := by omega
      have ep : (2 : Int) ^ (7 * (j + 1)) = 2 ^ (7 * j) * 128 := by rw [show 7 * (j + 1) = 7 * j + 7 by omega, Int.pow_add]; rfl
      have eq : n + ((q % 128 : Nat) : Int) * 2 ^ (7 * j) + ((q / 128 : Nat) : Int) * 2 ^ (7 * (j + 1)) = n + (q : Int) * 2 ^ (7 * j) := by
        rw [ep]
        have hq : (q : Int) = ((q / 128 : Nat) : Int) * 128 + ((q % 128 : Nat) : Int) := by omega
        generalize (2 : Int) ^ (7 * j) = P
        generalize ((q / 128 : Nat) : Int) = a at hq ⊢
        generalize ((q % 128 : Nat) : Int) = c at hq ⊢
        rw [hq, Int.add_mul, Int.mul_assoc, Int.mul_comm 128 P]
        generalize a * (P * 128) = u
        generalize c * P = v
        omega
      rw [e, ih (j + 1) _ (q / 128) tail (by omega) (by rw [eq]; exact hm) (by omega), eq]
      congr 2; omega
theorem uv_rv (f : Nat) : ∀ (j : Nat) (n : Int) (R : List Int) (m : Int) (c : Nat), (∀ v ∈ R, 0 ≤ v ∧ v ≤ 255) → rv f j n R = some (m, c) → ∃ q : Nat, m = n + (q : Int) * 2 ^ (7 * j) ∧ j < c ∧ uv q = R.take (c - j) ∧ (0 < j → 0 < q) := by
  induction f with
  | zero => intro j n R m c _ h; simp [rv] at h
  | succ f ih =>
    intro j n R m c hR h
    cases R with
    | nil => simp [rv] at h
    | cons v R =>
      have hv := hR v (List.mem_cons_self ..)
      simp only [rv] at h
      by_cases h1 : v < 128
      · rw [if_pos h1] at h
        split at h
        · cases h
        · rename_i hn
          injection h with h; injection h with e1 e2
          subst e1 e2
          refine ⟨v.toNat, by rw [show ((v.toNat : Nat) : Int) = v by omega], by omega, ?_, fun hj => ?_⟩
          · rw [uv_small _ (by omega), show j + 1 - j = 1 by omega, show ((v.toNat : Nat) : Int) = v by omega]; rfl
          · by_cases e : v = 0
            · exact absurd (.inl ⟨hj, e⟩) hn
            · omega
      · rw [if_neg h1] at h
        obtain ⟨q, g1, g2, g3, g4⟩ := ih (j + 1) _ R m c (fun v hv => hR v (List.mem_cons_of_mem _ hv)) h
        have hq := g4 (by omega)
        have ep : (2 : Int) ^ (7 * (j + 1)) = 2 ^ (7 * j) * 128 := by rw [show 7 * (j + 1) = 7 * j + 7 by omega, Int.pow_add]; rfl
        refine ⟨128 * q + (v % 128).toNat, ?_, by omega, ?_, fun _ => by omega⟩
        · rw [g1, ep]
          have hx : ((128 * q + (v % 128).toNat : Nat) : Int) = (q : Int) * 128 + v % 128 := by omega
          rw [hx]
          generalize (2 : Int) ^ (7 * j) = P
          generalize v % 128 = c'
          rw [Int.add_mul, Int.mul_assoc (q : Int) 128 P, Int.mul_comm 128 P]
          generalize (q : Int) * (P * 128) = u
          generalize c' * P = v'
          omega
        · rw [uv_big _ (by omega), show (128 * q + (v % 128).toNat) % 128 = (v % 128).toNat by omega, show (128 * q + (v % 128).toNat) / 128 = q by omega, g3, show c - j = (c - (j + 1)) + 1 by omega, List.take_succ_cons]
          congr 1; omega
theorem ru_uv (pre tail : List Int) (n : Int) (h0 : 0 ≤ n) (h1 : n ≤ 1000000000000) : ru (pre ++ (uv n.toNat ++ tail)) (pre.length : Int) = (n, ((pre.length + (uv n.toNat).length : Nat) : Int), true) := by
  unfold ru
  rw [if_neg (by omega), Int.toNat_natCast, List.drop_left, rv_uv 6 0 0 n.toNat tail (uv_len6 _ (by omega)) (by simp; omega) (by omega)]
  simp only [rvo]
  simp; omega
theorem ru_end (b : List Int) : ru b (b.length : Int) = (0, 0, false) := by
  unfold ru
  rw [if_neg (by omega), Int.toNat_natCast, List.drop_length]
  rfl
theorem ru_no (b : List Int) (a n at_ : Int) (h : ru b a = (n, at_, false)) : n = 0 ∧ at_ = 0 := by
  unfold ru at h
  split at h
  · simp at h; omega
  · cases e : rv 6 0 0 (b.drop a.toNat) with
    | none => rw [e] at h; simp [rvo] at h; omega
    | some r => obtain ⟨m, c⟩ := r; rw [e] at h; simp [rvo] at h
theorem ru_yes (b : List Int) (hw : ∀ v ∈ b, 0 ≤ v ∧ v ≤ 255) (a n at_ : Int) (h : ru b a = (n, at_, true)) : 0 ≤ a ∧ a < at_ ∧ at_ ≤ (b.length : Int) ∧ (0 ≤ n ∧ n ≤ 1000000000000) ∧ uv n.toNat = (b.take at_.toNat).drop a.toNat := by
  unfold ru at h
  split at h
  · simp at h
  · cases e : rv 6 0 0 (b.drop a.toNat) with
    | none => rw [e] at h; simp [rvo] at h
    | some r =>
      obtain ⟨m, c⟩ := r
      rw [e] at h
      simp only [rvo, Prod.mk.injEq] at h
      obtain ⟨rfl, h2, _⟩ := h
      have hw' : ∀ v ∈ b.drop a.toNat, 0 ≤ v ∧ v ≤ 255 := fun v hv => hw v (List.mem_of_mem_drop hv)
      obtain ⟨g1, g2, g3, g4, _⟩ := rv_bd 6 0 0 _ m c (by omega) (fun v hv => (hw' v hv).1) e
      obtain ⟨q, p1, p2, p3, _⟩ := uv_rv 6 0 0 _ m c hw' e
      rw [List.length_drop] at g4
      have hq : m.toNat = q := by simp at p1; omega
      refine ⟨by omega, by omega, by omega, ⟨g1, g2⟩, ?_⟩
      rw [hq, p3, List.drop_take, show at_.toNat - a.toNat = c - 0 by omega]
theorem wf_u8 {l : List Int} (h : ∀ x ∈ l, 0 ≤ x ∧ x ≤ 255) : ∀ x ∈ l, (Lit.int .u8 x).wf = true := by
  intro x hx
  have := h x hx
  simp [Lit.wf, IntKind.min, IntKind.max, IntKind.signed, IntKind.bits]; omega
theorem uv_u8 (d : Nat) : ∀ n, n < 128 ^ (d + 1) → ∀ x ∈ uv n, 0 ≤ x ∧ x ≤ 255 := by
  induction d with
  | zero => intro n h x hx; rw [uv_small n (by simpa using h), List.mem_singleton] at hx; simp at h; omega
  | succ d ih =>
    intro n h x hx
    by_cases h1 : n < 128
    · rw [uv_small n h1, List.mem_singleton] at hx; omega
    · rw [uv_big n (by omega)] at hx
      rcases List.mem_cons.1 hx with e | e
      · omega
      · exact ih (n / 128) (by rw [Nat.pow_succ] at h; omega) x e
theorem auv_u8 (b : List Int) (hw : ∀ x ∈ b, 0 ≤ x ∧ x ≤ 255) (n : Int) : ∀ x ∈ auv b n, 0 ≤ x ∧ x ≤ 255 := by
  intro x hx
  unfold auv at hx
  split at hx
  · rcases List.mem_append.1 hx with h | h
    · exact hw x h
    · exact uv_u8 5 n.toNat (by omega) x h
  · exact hw x hx
theorem impl_AB_eq (b c : List Int) (hb : b.length ≤ 1048576) (hc : c.length ≤ 1048576) (k : Nat) (hk : 6 < k) : impl_AppendBytes.f k b c = some (auv b c.length ++ c) := by
  have := auv_len b c.length
  unfold impl_AppendBytes.f
  rw [impl_AU_eq b _ (by omega) k hk, Option.bind_some, if_pos (by omega)]
theorem dAB (b : List Int) (hb : b.length ≤ 1048576) (k : Nat) (hk : b.length + 20 < k) : ∃ (l c : List Int), spec_DrawAppendBytes.f k b = some (l, c) ∧ l.length ≤ 3 ∧ c.length ≤ 6 ∧ (∀ x ∈ l, 0 ≤ x ∧ x ≤ 255) ∧ (∀ x ∈ c, 0 ≤ x ∧ x ≤ 255) := by
  unfold spec_DrawAppendBytes.f
  obtain ⟨h0, e0⟩ := l1New_eq b hb k (by omega)
  have c0 : Cur b 0 := by unfold Cur; omega
  rw [e0, Option.bind_some]; simp only []
  obtain ⟨x, i1, k1, e1, g1, g2, g3⟩ := l1Below_eq b hb 0 h0 c0 3
  rw [e1, Option.bind_some]; simp only []
  obtain ⟨l, i2, k2, e2, p1, p2, p3⟩ := l1Bytes_eq b hb x (by omega) i1 k1 g3 k (by omega)
  rw [e2, Option.bind_some]; simp only []
  obtain ⟨y, i3, k3, e3, q1, q2, q3⟩ := l1Below_eq b hb i2 k2 p3 6
  rw [e3, Option.bind_some]; simp only []
  obtain ⟨c, i4, k4, e4, r1, r2, r3⟩ := l1Bytes_eq b hb y (by omega) i3 k3 q3 k (by omega)
  rw [e4, Option.bind_some]
  exact ⟨l, c, rfl, by omega, by omega, p2, r2⟩
theorem at_eq (b : List Int) (hb : b.length ≤ 1048576) (hw : ∀ x ∈ b, (Lit.int .u8 x).wf = true) (i : Int) (h0 : 0 ≤ i) (h1 : i ≤ 100) : ∃ x, laws_at.f b i = some x ∧ 0 ≤ x ∧ x ≤ 255 := by
  unfold laws_at.f
  by_cases h : i < (b.length : Int)
  · have := wrb b hw i.toNat (by omega)
    rw [show ((i.toNat : Nat) : Int) = i by omega] at this
    rw [if_pos h, if_pos h0, wr (by omega) (by omega)]
    exact ⟨_, rfl, this⟩
  · rw [if_neg h, wr (i := i * 31) (by omega) (by omega), wr (i := (b.length : Int) * 7) (by omega) (by omega), wr (by omega) (by omega), tmod_nn _ _ (by omega)]
    exact ⟨_, rfl, by omega, by omega⟩
theorem eif (l : List Int) (hl : ∀ x ∈ l, 0 ≤ x ∧ x ≤ 1000000000000) : ∀ o, l.foldl auv o = o ++ l.flatMap fun x => uv x.toNat := by
  induction l with
  | nil => intro o; simp
  | cons x l ih =>
    intro o
    have e : auv o x = o ++ uv x.toNat := by unfold auv; rw [if_pos (hl x (List.mem_cons_self ..))]
    rw [List.foldl_cons, ih (fun y hy => hl y (List.mem_cons_of_mem _ hy)), e, List.flatMap_cons, List.append_assoc]
theorem dil_ei (l : List Int) (hl : ∀ x ∈ l, 0 ≤ x ∧ x ≤ 1000000000000) : ∀ (pre o : List Int), dil (pre ++ l.flatMap fun x => uv x.toNat) l.length (pre.length : Int) o = (o ++ l, ((pre ++ l.flatMap fun x => uv x.toNat).length : Int), true) := by
  induction l with
  | nil => intro pre o; simp [dil]
  | cons x l ih =>
    intro pre o
    have hx := hl x (List.mem_cons_self ..)
    have := ih (fun y hy => hl y (List.mem_cons_of_mem _ hy)) (pre ++ uv x.toNat) (o ++ [x])
    simp only [List.flatMap_cons, List.length_cons, dil]
    rw [ru_uv pre _ x hx.1 hx.2]
    simp only []
    rw [List.length_append, List.append_assoc] at this
    rw [this]
    simp
theorem dil_more (l : List Int) (hl : ∀ x ∈ l, 0 ≤ x ∧ x ≤ 1000000000000) : ∀ (pre o : List Int), dil (pre ++ l.flatMap fun x => uv x.toNat) (l.length + 1) (pre.length : Int) o = ([], 0, false) := by
  induction l with
  | nil => intro pre o; simp [dil, ru_end]
  | cons x l ih =>
    intro pre o
    have hx := hl x (List.mem_cons_self ..)
    have := ih (fun y hy => hl y (List.mem_cons_of_mem _ hy)) (pre ++ uv x.toNat) (o ++ [x])
    rw [List.length_cons]
    generalize hn : l.length + 1 = n at this
    simp only [List.flatMap_cons, dil]
    rw [ru_uv pre _ x hx.1 hx.2]
    simp only []
    rw [List.length_append, List.append_assoc] at this
    exact this
theorem flat_u8 (l : List Int) (hl : ∀ x ∈ l, 0 ≤ x ∧ x ≤ 1000000000000) : ∀ x ∈ l.flatMap fun x => uv x.toNat, 0 ≤ x ∧ x ≤ 255 := by
  intro x hx
  obtain ⟨y, hy, h⟩ := List.mem_flatMap.1 hx
  have := hl y hy
  exact uv_u8 5 y.toNat (by omega) x h
theorem second (b : List Int) (hb : b.length ≤ 1048576) (hw : ∀ x ∈ b, (Lit.int .u8 x).wf = true) (m : Int) (hm : laws_at.f b 0 = some m) (h0 : 0 ≤ m) : ∀ (d k i : Nat) (o : List Int), (i : Int) + d = m % 6 → o.length = i → (∀ x ∈ o, 0 ≤ x ∧ x ≤ 16581375) → d + 300 < k → laws_FnByteStrings.l0 k b o i = some true := by
  intro d
  induction d with
  | zero =>
    intro k i o hd ho hv hk
    obtain ⟨k, rfl⟩ := rounds_succ hk
    simp only [laws_FnByteStrings.l0]
    rw [hm, Option.bind_some, tmod_nn _ _ h0, if_neg (by omega)]
    have hv' : ∀ x ∈ o, 0 ≤ x ∧ x ≤ 1000000000000 := fun x hx => by have := hv x hx; omega
    have he : ei o = [] ++ o.flatMap fun x => uv x.toNat := by unfold ei; rw [eif o hv' []]
    have hel := ei_length o
    have hu : ∀ x ∈ ei o, (Lit.int .u8 x).wf = true := by rw [he, List.nil_append]; exact wf_u8 (flat_u8 o hv')
    rw [impl_EI_eq o (by omega) k (by omega), Option.bind_some, impl_DI_eq (ei o) (by omega) hu 0 _ k (by omega), Option.bind_some, wrs (by omega), impl_DI_eq (ei o) (by omega) hu 0 _ k (by omega), Option.bind_some]
    have e1 := dil_ei o hv' [] []
    have e2 := dil_more o hv' [] []
    rw [← he] at e1 e2
    simp only [List.length_nil, List.nil_append] at e1 e2
    have d1 : di (ei o) 0 (o.length : Int) = (o, ((ei o).length : Int), true) := by
      unfold di; rw [if_pos (by omega), Int.toNat_natCast]; exact e1
    have d2 : di (ei o) 0 ((o.length + 1 : Nat) : Int) = ([], 0, false) := by
      unfold di; rw [if_pos (by omega), Int.toNat_natCast]; exact e2
    rw [d1, d2]
    simp only []
    rw [if_pos trivial, laws_sameInts_eq o o (by omega) k (by omega), Option.bind_some, if_pos (by simp), if_pos trivial]
    rfl
  | succ d ih =>
    intro k i o hd ho hv hk
    obtain ⟨k, rfl⟩ := rounds_succ hk
    simp only [laws_FnByteStrings.l0]
    rw [hm, Option.bind_some, tmod_nn _ _ h0, if_pos (by omega)]
    obtain ⟨x, ex, x0, x1⟩ := at_eq b hb hw ((i : Int) + 1) (by omega) (by omega)
    obtain ⟨y, ey, y0, y1⟩ := at_eq b hb hw ((i : Int) + 2) (by omega) (by omega)
    obtain ⟨z, ez, z0, z1⟩ := at_eq b hb hw ((i : Int) + 3) (by omega) (by omega)
    rw [show wrap64 ((i : Int) + 1) = (i : Int) + 1 from wr (by omega) (by omega), show wrap64 ((i : Int) + 2) = (i : Int) + 2 from wr (by omega) (by omega), show wrap64 ((i : Int) + 3) = (i : Int) + 3 from wr (by omega) (by omega), ex, Option.bind_some, ey, Option.bind_some, ez, Option.bind_some, if_pos (by omega)]
    have m0 := Int.mul_nonneg x0 y0
    have m1 : x * y ≤ 255 * 255 := Int.mul_le_mul x1 y1 y0 (by omega)
    have m2 := Int.mul_nonneg m0 z0
    have m3 : x * y * z ≤ 255 * 255 * 255 := Int.mul_le_mul m1 z1 z0 (by omega)
    rw [wr (i := x * y) (by omega) (by omega), wr (i := x * y * z) (by omega) (by omega)]
    generalize x * y * z = p at m2 m3
    exact ih k (i + 1) (o ++ [p]) (by omega) (by simp [ho]) (fun q hq => by
      rcases List.mem_append.1 hq with hq | hq
      · exact hv q hq
      · rw [List.mem_singleton.1 hq]; omega) (by omega)
theorem FnByteStrings : laws_FnByteStrings.Pure := by
  intro b _ _ hw
  obtain ⟨K, hK⟩ : ∃ K, K = b.length + 700 := ⟨_, rfl⟩
  refine ⟨K + 1, ?_⟩
  unfold laws_FnByteStrings.f laws_big.f
  rw [Option.bind_some]
  by_cases hb : b.length ≤ 1048576
  · rw [if_neg (by simp; omega)]
    obtain ⟨l, c, e0, hl, hc, lw, cw⟩ := dAB b hb (K + 1) (by omega)
    have ha := auv_len l c.length
    rw [e0, Option.bind_some]; simp only []
    rw [impl_AB_eq l c (by omega) (by omega) _ (by omega), Option.bind_some]
    have hx : auv l c.length ++ c = l ++ (uv c.length ++ c) := by
      unfold auv; rw [if_pos (by omega), Int.toNat_natCast, List.append_assoc]
    have hu : ∀ x ∈ auv l c.length ++ c, 0 ≤ x ∧ x ≤ 255 := by
      intro x h
      rcases List.mem_append.1 h with h | h
      · exact auv_u8 l lw _ x h
      · exact cw x h
    have hlen : (auv l c.length ++ c).length ≤ 100 := by rw [List.length_append]; omega
    have hr : ru (auv l c.length ++ c) (l.length : Int) = ((c.length : Int), ((l.length + (uv c.length).length : Nat) : Int), true) := by
      rw [hx]
      have := ru_uv l c (c.length : Int) (by omega) (by omega)
      rwa [Int.toNat_natCast] at this
    have hl2 : (auv l c.length ++ c).length = l.length + (uv c.length).length + c.length := by rw [hx]; simp; omega
    have r1 : rb (auv l c.length ++ c) (l.length : Int) (c.length : Int) = (c, ((auv l c.length ++ c).length : Int), true) := by
      unfold rb
      rw [hr]
      simp only []
      have ht : ((l.length + (uv c.length).length : Nat) : Int) + (c.length : Int) = ((auv l c.length ++ c).length : Int) := by omega
      rw [if_neg (by omega), ht, Int.toNat_natCast, Int.toNat_natCast, List.take_length, hx, ← List.append_assoc, List.drop_left' (by simp)]
    have r2 : rb (auv l c.length ++ c) (l.length : Int) ((c.length : Int) - 1) = ([], 0, false) := by
      unfold rb
      rw [hr]
      simp only []
      rw [if_pos (.inl (by omega))]
    rw [impl_RB_eq _ (by omega) (wf_u8 hu) _ _ _ (by omega), Option.bind_some, r1, wr (i := (c.length : Int) - 1) (by omega) (by omega), impl_RB_eq _ (by omega) (wf_u8 hu) _ _ _ (by omega), Option.bind_some, r2]
    simp only []
    rw [if_pos trivial, laws_sameBytes_eq c c (by omega) _ (by omega), Option.bind_some, if_pos (by simp), if_pos trivial]
    simp only [laws_FnByteStrings.j0]
    rw [if_neg (by simp)]
    obtain ⟨m, em, m0, _⟩ := at_eq b hb hw 0 (by omega) (by omega)
    exact second b hb hw m em m0 (m % 6).toNat K 0 [] (by omega) rfl (fun x hx => by cases hx) (by omega)
  · rw [if_pos (by simp; omega)]
end Go.Proofs.Ytdoackhmdcpfaaa.Pure
