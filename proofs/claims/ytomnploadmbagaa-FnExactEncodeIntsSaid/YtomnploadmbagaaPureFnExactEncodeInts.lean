/- The program's EncodeInts answers as the reference's does, for all lists of integers, leaves its argument alone and hands back memory of its own. Conditions: none. -/
import Derived.Test.YtomnploadmbagaaPFnExactEncodeIntsx2
import Derived.OpenShut
import Derived.Test.YtomnploadmbagaaWSized
namespace Go.Proofs.Ytomnploadmbagaa.Pure
open Go.RowKit Go.Proofs.Ytomnploadmbagaa.PFnExactEncodeInts Go.Proofs.YtomnploadmbagaaW.PrintWords Go.Proofs.YtomnploadmbagaaW.PrintLast
theorem wr {i : Int} (h0 : -9223372036854775808 ≤ i) (h : i ≤ 9223372036854775807) : wrap64 i = i := by unfold wrap64; omega
theorem wrs {i : Nat} (h : i < 9223372036854775807) : wrap64 ((i : Int) + 1) = ((i + 1 : Nat) : Int) := by unfold wrap64; omega
theorem rd_nat (l : List Int) (i : Nat) (h : i < l.length) : rd l (i : Int) = l[i] := by simp [rd, h]
theorem rd_some (l : List Int) (i : Nat) (h : i < l.length) : l[i]? = some (rd l (i : Int)) := by rw [rd_nat l i h, List.getElem?_eq_getElem h]
theorem rounds_succ {d k : Nat} (h : d < k) : ∃ m, k = m + 1 := ⟨k - 1, by omega⟩
theorem laws_toIntS_l (l : List Int) (hl : l.length ≤ 1048576) : ∀ (d k i : Nat) (xs : List Int), xs.length = l.length → (∀ j, j < i → xs[j]? = l[j]?) → i + d = l.length → d < k → laws_toIntS.l0 k l xs i = some l := by
  intro d
  induction d with
  | zero =>
    intro k i xs hx hp hd hk
    obtain ⟨k, rfl⟩ := rounds_succ hk
    simp only [laws_toIntS.l0]; rw [if_neg (by omega)]
    congr 1
    refine List.ext_getElem? fun j => ?_
    by_cases hj : j < i
    · exact hp j hj
    · rw [List.getElem?_eq_none (by omega), List.getElem?_eq_none (by omega)]
  | succ d ih =>
    intro k i xs hx hp hd hk
    obtain ⟨k, rfl⟩ := rounds_succ hk
    simp only [laws_toIntS.l0]; rw [if_pos (by omega), if_pos (by omega), if_pos (by omega), wrs (by omega), Int.toNat_natCast]
    refine ih k (i + 1) _ (by simp [hx]) ?_ (by omega) (by omega)
    intro j hj
    rw [List.getElem?_set]
    by_cases e : i = j
    · subst e; rw [if_pos rfl, if_pos (by omega), rd_some l i (by omega)]
    · rw [if_neg e]; exact hp j (by omega)
theorem laws_toIntS_eq (l : List Int) (hl : l.length ≤ 1048576) (k : Nat) (hk : l.length < k) : laws_toIntS.f k l = some l := by
  unfold laws_toIntS.f
  rw [if_pos (by omega), if_pos (by omega)]
  exact laws_toIntS_l l hl l.length k 0 _ (by simp) (fun j hj => by omega) (by omega) hk
theorem laws_eqIntS_l (a b : List Int) (hl : a.length ≤ 1099511627776) (hab : a.length = b.length) : ∀ (d k i : Nat), (∀ j, j < i → a[j]? = b[j]?) → i + d = a.length → d < k → laws_eqIntS.l0 k a b i = some (decide (a = b)) := by
  intro d
  induction d with
  | zero =>
    intro k i hp hd hk
    obtain ⟨k, rfl⟩ := rounds_succ hk
    simp only [laws_eqIntS.l0]; rw [if_neg (by omega)]
    have : a = b := by
      refine List.ext_getElem? fun j => ?_
      by_cases hj : j < i
      · exact hp j hj
      · rw [List.getElem?_eq_none (by omega), List.getElem?_eq_none (by omega)]
    simp [this]
  | succ d ih =>
    intro k i hp hd hk
    obtain ⟨k, rfl⟩ := rounds_succ hk
    simp only [laws_eqIntS.l0]; rw [if_pos (by omega), if_pos (by omega), if_pos (by omega)]
    by_cases e : rd a i = rd b i
    · rw [if_pos e, wrs (by omega)]
      refine ih k (i + 1) ?_ (by omega) (by omega)
      intro j hj
      by_cases e' : j = i
      · subst e'; rw [rd_some a j (by omega), rd_some b j (by omega), e]
      · exact hp j (by omega)
    · rw [if_neg e]
      have : ¬ a = b := fun h => e (by rw [h])
      simp [this]
theorem laws_eqIntS_eq (a b : List Int) (hl : a.length ≤ 1099511627776) (k : Nat) (hk : a.length < k) : laws_eqIntS.f k a b = some (decide (a = b)) := by
  unfold laws_eqIntS.f
  by_cases h : a.length = b.length
  · rw [if_pos (by omega)]
    exact laws_eqIntS_l a b hl h a.length k 0 (fun j hj => by omega) (by omega) hk
  · rw [if_neg (by omega)]
    have : ¬ a = b := fun e => h (by rw [e])
    simp [this]
theorem laws_eqByteS_l (a b : List Int) (hl : a.length ≤ 1099511627776) (hab : a.length = b.length) : ∀ (d k i : Nat), (∀ j, j < i → a[j]? = b[j]?) → i + d = a.length → d < k → laws_eqByteS.l0 k a b i = some (decide (a = b)) := by
  intro d
  induction d with
  | zero =>
    intro k i hp hd hk
    obtain ⟨k, rfl⟩ := rounds_succ hk
    simp only [laws_eqByteS.l0]; rw [if_neg (by omega)]
    have : a = b := by
      refine List.ext_getElem? fun j => ?_
      by_cases hj : j < i
      · exact hp j hj
      · rw [List.getElem?_eq_none (by omega), List.getElem?_eq_none (by omega)]
    simp [this]
  | succ d ih =>
    intro k i hp hd hk
    obtain ⟨k, rfl⟩ := rounds_succ hk
    simp only [laws_eqByteS.l0]; rw [if_pos (by omega), if_pos (by omega), if_pos (by omega)]
    by_cases e : rd a i = rd b i
    · rw [if_pos e, wrs (by omega)]
      refine ih k (i + 1) ?_ (by omega) (by omega)
      intro j hj
      by_cases e' : j = i
      · subst e'; rw [rd_some a j (by omega), rd_some b j (by omega), e]
      · exact hp j (by omega)
    · rw [if_neg e]
      have : ¬ a = b := fun h => e (by rw [h])
      simp [this]
theorem laws_eqByteS_eq (a b : List Int) (hl : a.length ≤ 1099511627776) (k : Nat) (hk : a.length < k) : laws_eqByteS.f k a b = some (decide (a = b)) := by
  unfold laws_eqByteS.f
  by_cases h : a.length = b.length
  · rw [if_pos (by omega)]
    exact laws_eqByteS_l a b hl h a.length k 0 (fun j hj => by omega) (by omega) hk
  · rw [if_neg (by omega)]
    have : ¬ a = b := fun e => h (by rw [e])
    simp [this]
theorem laws_markIntS_e (a0 : Int) (n : Nat) (h0 : 0 ≤ a0) (h1 : a0 + n ≤ 4611686018427387904) : ∀ (d k i : Nat) (x : List Int) (a : Int), x.length = n → a = a0 + i → i + d = n → d < k →
    ∃ m, laws_markIntS.l0 k x a i = some (a0 + n, m) := by
  intro d
  induction d with
  | zero =>
    intro k i x a hx ha hd hk
    obtain ⟨k, rfl⟩ := rounds_succ hk
    simp only [laws_markIntS.l0]; rw [if_neg (by omega)]
    exact ⟨x, by rw [ha]; congr 2; omega⟩
  | succ d ih =>
    intro k i x a hx ha hd hk
    obtain ⟨k, rfl⟩ := rounds_succ hk
    simp only [laws_markIntS.l0]; rw [if_pos (by omega), if_pos (by omega), wrs (by omega), wr (i := a + 1) (by omega) (by omega), Int.toNat_natCast]
    exact ih k (i + 1) _ _ (by simp [hx]) (by omega) (by omega) (by omega)
theorem laws_markIntS_ends (l : List Int) (a : Int) (h0 : 0 ≤ a) (h1 : a + l.length ≤ 4611686018427387904) (k : Nat) (hk : l.length < k) : ∃ m, laws_markIntS.f k l a = some (a + l.length, m) :=
  laws_markIntS_e a l.length h0 h1 l.length k 0 l a rfl (by omega) (by omega) hk
theorem laws_markByteS_l (a0 : Int) (n : Nat) (h0 : 0 ≤ a0) (h1 : a0 + n ≤ 4611686018427387904) : ∀ (d k i : Nat) (x : List Int) (a : Int), x.length = n → a = a0 + i → (∀ j, j < i → x[j]? = some ((a0 + (j : Int))%256)) → i + d = n → d < k →
    laws_markByteS.l0 k x a i = some (a0 + n, (List.range n).map fun (j : Nat) => (a0 + (j : Int))%256) := by
  intro d
  induction d with
  | zero =>
    intro k i x a hx ha hp hd hk
    obtain ⟨k, rfl⟩ := rounds_succ hk
    simp only [laws_markByteS.l0]; rw [if_neg (by omega)]
    have : x = (List.range n).map fun (j : Nat) => (a0 + (j : Int))%256 := by
      refine List.ext_getElem? fun j => ?_
      by_cases hj : j < n
      · rw [hp j (by omega), List.getElem?_map, List.getElem?_range hj]; rfl
      · rw [List.getElem?_eq_none (by omega), List.getElem?_eq_none (by simp; omega)]
    rw [this, ha]; congr 2; omega
  | succ d ih =>
    intro k i x a hx ha hp hd hk
    obtain ⟨k, rfl⟩ := rounds_succ hk
    simp only [laws_markByteS.l0]; rw [if_pos (by omega), if_pos (by omega), wrs (by omega), wr (i := a + 1) (by omega) (by omega), Int.toNat_natCast]
    refine ih k (i + 1) _ _ (by simp [hx]) (by omega) ?_ (by omega) (by omega)
    intro j hj
    rw [List.getElem?_set]
    by_cases e : i = j
    · subst e; rw [if_pos rfl, if_pos (by omega), ha]
    · rw [if_neg e]; exact hp j (by omega)
theorem laws_heldByteS_l (a0 : Int) (n : Nat) (h0 : 0 ≤ a0) (h1 : a0 + n ≤ 4611686018427387904) : ∀ (d k i : Nat) (a : Int), a = a0 + i → i + d = n → d < k →
    laws_heldByteS.l0 k ((List.range n).map fun (j : Nat) => (a0 + (j : Int))%256) a i = some (a0 + n) := by
  intro d
  induction d with
  | zero =>
    intro k i a ha hd hk
    obtain ⟨k, rfl⟩ := rounds_succ hk
    simp only [laws_heldByteS.l0]; rw [if_neg (by simp; omega)]
    rw [ha]; congr 1; omega
  | succ d ih =>
    intro k i a ha hd hk
    obtain ⟨k, rfl⟩ := rounds_succ hk
    simp only [laws_heldByteS.l0]; rw [if_pos (by simp; omega), if_pos (by omega), wrs (by omega), wr (i := a + 1) (by omega) (by omega)]
    rw [if_pos (by rw [rd_nat _ _ (by simp; omega)]; simp [ha])]
    exact ih k (i + 1) _ (by omega) (by omega) (by omega)
theorem laws_markByteS_held (l : List Int) (a : Int) (h0 : 0 ≤ a) (h1 : a + l.length ≤ 4611686018427387904) : ∃ m, ∀ k, l.length < k → laws_markByteS.f k l a = some (a + l.length, m) ∧ laws_heldByteS.f k m a = some (a + l.length) :=
  ⟨(List.range l.length).map fun (j : Nat) => (a + (j : Int))%256, fun k hk => ⟨laws_markByteS_l a l.length h0 h1 l.length k 0 l a rfl (by omega) (fun j hj => by omega) (by omega) hk, laws_heldByteS_l a l.length h0 h1 l.length k 0 a (by omega) (by omega) hk⟩⟩
theorem wraps_i64 (n : Int) (h₀ : 0 ≤ n) (h₁ : n < 2 ^ 63) : IntKind.i64.wrap n = n := by rw [IntKind.wrap_i64]; omega
theorem and127 (n : Int) (h0 : 0 ≤ n) (h1 : n < 9223372036854775808) : Go.bits .and .i64 n 127 = n % 128 := bits_mask .i64 63 (by decide) wraps_i64 7 (by decide) n h0 h1
theorem and127u (n : Int) (h0 : 0 ≤ n) (h1 : n < 256) : Go.bits .and .u8 n 127 = n % 128 := bits_mask .u8 8 (by decide) wraps_u8 7 (by decide) n h0 h1
theorem or_add (k : IntKind) (j : Nat) (hj : j ≤ k.bits) (hk : ∀ n : Int, 0 ≤ n → n < 2 ^ j → k.wrap n = n) (i : Nat)
    (x y : Int) (hx₀ : 0 ≤ x) (hx : x % 2 ^ i = 0) (hx₁ : x < 2 ^ j) (hy₀ : 0 ≤ y) (hy : y < 2 ^ i) (hy₁ : y < 2 ^ j) : Go.bits .or k y x = y + x := by
  have h := bits_join k j hj hk i x y hx₀ hx hx₁ hy₀ hy hy₁
  rw [Int.add_comm, ← h]
  obtain ⟨a, rfl⟩ := Int.eq_ofNat_of_zero_le hx₀
  obtain ⟨b, rfl⟩ := Int.eq_ofNat_of_zero_le hy₀
  have ha : a < 2 ^ j := by exact_mod_cast hx₁
  have hb : b < 2 ^ j := by exact_mod_cast hy₁
  rw [(bits_nat k j hj hk b a hb ha).2, (bits_nat k j hj hk a b ha hb).2, Nat.or_comm]
theorem or128 (y : Int) (h0 : 0 ≤ y) (h1 : y < 128) : Go.bits .or .i64 y 128 = y + 128 := or_add .i64 63 (by decide) wraps_i64 7 128 y (by decide) (by decide) (by decide) h0 h1 (by omega)
theorem or128u (y : Int) (h0 : 0 ≤ y) (h1 : y < 128) : Go.bits .or .u8 y 128 = y + 128 := or_add .u8 8 (by decide) wraps_u8 7 128 y (by decide) (by decide) (by decide) h0 h1 (by omega)
def uv (n : Nat) : List Int := if _h : n < 128 then [(n : Int)] else (((n % 128 : Nat) : Int) + 128) :: uv (n / 128)
termination_by n
decreasing_by omega
theorem uv_small (n : Nat) (h : n < 128) : uv n = [(n : Int)] := by rw [uv]; simp [h]
theorem uv_big (n : Nat) (h : 128 ≤ n) : uv n = (((n % 128 : Nat) : Int) + 128) :: uv (n / 128) := by rw [uv]; rw [dif_neg (by omega)]
theorem uv_length (d : Nat) : ∀ n, n < 128 ^ (d + 1) → (uv n).length ≤ d + 1 := by
  induction d with
  | zero => intro n h; rw [uv_small n (by simpa using h)]; simp
  | succ d ih =>
    intro n h
    by_cases h1 : n < 128
    · rw [uv_small n h1]; simp
    · rw [uv_big n (by omega), List.length_cons]
      have := ih (n / 128) (by rw [Nat.pow_succ] at h; omega)
      omega
theorem uv_len6 (n : Nat) (h : n ≤ 1000000000000) : (uv n).length ≤ 6 := uv_length 5 n (by omega)
def auv (b : List Int) (n : Int) : List Int := if 0 ≤ n ∧ n ≤ 1000000000000 then b ++ uv n.toNat else b
theorem auv_len (b : List Int) (n : Int) : (auv b n).length ≤ b.length + 6 := by
  unfold auv
  split
  · have := uv_len6 n.toNat (by omega)
    rw [List.length_append]; omega
  · omega
theorem impl_InRange_eq (a b c : Int) : impl_InRange.f a b c = some (decide (b ≤ a ∧ a ≤ c)) := by
  unfold impl_InRange.f; by_cases h : b ≤ a <;> simp [h]
theorem impl_AU_l (d : Nat) : ∀ (k n : Nat) (out : List Int), n < 128 ^ (d + 1) → n < 9223372036854775808 → out.length + d + 1 < 140737488355328 → d < k → impl_AppendUvarint.l0 k n out = some (out ++ uv n) := by
  induction d with
  | zero =>
    intro k n out hn hn2 ho hk
    obtain ⟨k, rfl⟩ := rounds_succ hk
    simp at hn
    simp only [impl_AppendUvarint.l0]; rw [if_neg (by omega), if_pos (by omega), uv_small n (by omega)]
    congr 3; omega
  | succ d ih =>
    intro k n out hn hn2 ho hk
    obtain ⟨k, rfl⟩ := rounds_succ hk
    simp only [impl_AppendUvarint.l0]
    by_cases h : n < 128
    · rw [if_neg (by omega), if_pos (by omega), uv_small n (by omega)]
      congr 3; omega
    · rw [if_pos (by omega), if_pos (by omega), and127 _ (by omega) (by omega), or128u _ (by omega) (by omega), uv_big n (by omega)]
      have := ih k (n / 128) (out ++ [((n : Int) % 128) % 256 + 128]) (by rw [Nat.pow_succ] at hn; omega) (by omega) (by rw [List.length_append, List.length_singleton]; omega) (by omega)
      rw [show ((n : Int) / 128) = ((n / 128 : Nat) : Int) by omega, this, List.append_assoc, List.singleton_append]
      congr 3; omega
theorem impl_AU_eq (b : List Int) (n : Int) (hb : b.length ≤ 1099511627776) (k : Nat) (hk : 6 < k) : impl_AppendUvarint.f k b n = some (auv b n) := by
  unfold impl_AppendUvarint.f auv
  simp only [Option.bind_some, List.nil_append, List.length_nil]
  rw [if_pos (by omega), impl_InRange_eq, Option.bind_some]
  by_cases h : 0 ≤ n ∧ n ≤ 1000000000000
  · rw [if_pos (by simp [h]), if_pos h]
    have := impl_AU_l 5 k n.toNat b (by omega) (by omega) (by omega) (by omega)
    rwa [show ((n.toNat : Nat) : Int) = n by omega] at this
  · rw [if_neg (by simp; omega), if_neg h]
def ei (l : List Int) : List Int := l.foldl auv []
theorem eif_len (l : List Int) : ∀ o, (l.foldl auv o).length ≤ o.length + 6 * l.length := by
  induction l with
  | nil => intro o; simp
  | cons x l ih =>
    intro o
    have h1 := ih (auv o x)
    have h2 := auv_len o x
    rw [List.foldl_cons, List.length_cons]
    omega
theorem ei_length (l : List Int) : (ei l).length ≤ 6 * l.length := by
  have := eif_len l []
  simpa [ei] using this
theorem drop_rd' (l : List Int) (i : Nat) (h : i < l.length) : l.drop i = rd l i :: l.drop (i + 1) := by rw [rd_nat l i h]; exact List.drop_eq_getElem_cons h
theorem impl_EI_l (l : List Int) (hl : l.length ≤ 1048576) : ∀ (d k i : Nat) (o : List Int), o.length ≤ 6 * i → i + d = l.length → d + 7 < k → impl_EncodeInts.l0 k o l (l.length : Int) i = some ((l.drop i).foldl auv o) := by
  intro d
  induction d with
  | zero =>
    intro k i o ho hd hk
    obtain ⟨k, rfl⟩ := rounds_succ hk
    simp only [impl_EncodeInts.l0]; rw [if_neg (by omega), List.drop_eq_nil_of_le (by omega)]; rfl
  | succ d ih =>
    intro k i o ho hd hk
    obtain ⟨k, rfl⟩ := rounds_succ hk
    have ha := auv_len o (rd l i)
    simp only [impl_EncodeInts.l0]; rw [if_pos (by omega), if_pos (by omega), if_pos (by omega), impl_AU_eq _ _ (by omega) k (by omega), Option.bind_some, wrs (by omega), drop_rd' l i (by omega)]
    exact ih k (i + 1) _ (by omega) (by omega) (by omega)
theorem impl_EI_eq (l : List Int) (hl : l.length ≤ 1048576) (k : Nat) (hk : l.length + 7 < k) : impl_EncodeInts.f k l = some (ei l) := by
  have := impl_EI_l l hl l.length k 0 [] (by simp) (by omega) hk
  simpa [impl_EncodeInts.f, ei] using this
theorem spec_l1In_eq (a b c : Int) : spec_l1In.f a b c = some (decide (b ≤ a ∧ a ≤ c)) := by
  unfold spec_l1In.f; by_cases h : b ≤ a <;> simp [h]
theorem spec_AU_l (d : Nat) : ∀ (k n : Nat) (out : List Int), n < 128 ^ (d + 1) → n < 9223372036854775808 → out.length + d + 1 < 140737488355328 → d < k → spec_AppendUvarint.l0 k n out = some (out ++ uv n) := by
  induction d with
  | zero =>
    intro k n out hn hn2 ho hk
    obtain ⟨k, rfl⟩ := rounds_succ hk
    simp at hn
    simp only [spec_AppendUvarint.l0]; rw [if_neg (by omega), if_pos (by omega), uv_small n (by omega)]
    congr 3; omega
  | succ d ih =>
    intro k n out hn hn2 ho hk
    obtain ⟨k, rfl⟩ := rounds_succ hk
    simp only [spec_AppendUvarint.l0]
    by_cases h : n < 128
    · rw [if_neg (by omega), if_pos (by omega), uv_small n (by omega)]
      congr 3; omega
    · rw [if_pos (by omega), if_pos (by omega), and127 _ (by omega) (by omega), or128 _ (by omega) (by omega), uv_big n (by omega)]
      have := ih k (n / 128) (out ++ [((n : Int) % 128 + 128) % 256]) (by rw [Nat.pow_succ] at hn; omega) (by omega) (by rw [List.length_append, List.length_singleton]; omega) (by omega)
      rw [show ((n : Int) / 128) = ((n / 128 : Nat) : Int) by omega, this, List.append_assoc, List.singleton_append]
      congr 3; omega
theorem spec_AU_eq (b : List Int) (n : Int) (hb : b.length ≤ 1099511627776) (k : Nat) (hk : 6 < k) : spec_AppendUvarint.f k b n = some (auv b n) := by
  unfold spec_AppendUvarint.f auv
  simp only [Option.bind_some, List.nil_append, List.length_nil]
  rw [if_pos (by omega), spec_l1In_eq, Option.bind_some]
  by_cases h : 0 ≤ n ∧ n ≤ 1000000000000
  · rw [if_pos (by simp [h]), if_pos h]
    have := spec_AU_l 5 k n.toNat b (by omega) (by omega) (by omega) (by omega)
    rwa [show ((n.toNat : Nat) : Int) = n by omega] at this
  · rw [if_neg (by simp; omega), if_neg h]
theorem spec_EI_l (l : List Int) (hl : l.length ≤ 1048576) : ∀ (d k i : Nat) (o : List Int), o.length ≤ 6 * i → i + d = l.length → d + 7 < k → spec_EncodeInts.l0 k l o i = some ((l.drop i).foldl auv o) := by
  intro d
  induction d with
  | zero =>
    intro k i o ho hd hk
    obtain ⟨k, rfl⟩ := rounds_succ hk
    simp only [spec_EncodeInts.l0]; rw [if_neg (by omega), List.drop_eq_nil_of_le (by omega)]; rfl
  | succ d ih =>
    intro k i o ho hd hk
    obtain ⟨k, rfl⟩ := rounds_succ hk
    have ha := auv_len o (rd l i)
    simp only [spec_EncodeInts.l0]; rw [if_pos (by omega), if_pos (by omega), spec_AU_eq _ _ (by omega) k (by omega), Option.bind_some, wrs (by omega), drop_rd' l i (by omega)]
    exact ih k (i + 1) _ (by omega) (by omega) (by omega)
theorem spec_EI_eq (l : List Int) (hl : l.length ≤ 1048576) (k : Nat) (hk : l.length + 7 < k) : spec_EncodeInts.f k l = some (ei l) := by
  have := spec_EI_l l hl l.length k 0 [] (by simp) (by omega) hk
  simpa [spec_EncodeInts.f, ei] using this
theorem FnExactEncodeInts : laws_FnExactEncodeInts.Pure := by
  intro b _ _ hw
  obtain ⟨K, hK⟩ : ∃ K, K = (b).length + ((ei b)).length + 60 := ⟨_, rfl⟩
  refine ⟨K + 8, ?_⟩
  unfold laws_FnExactEncodeInts.f
  by_cases z_b : b.length ≤ 1048576
  · rw [if_neg (by omega)]
    have hr2 := ei_length b
    have h1_0 : ∀ j, laws_toIntS.f (K + j) b = some b := fun j => laws_toIntS_eq b z_b _ (by omega)
    have h2_0 : ∀ j, laws_eqIntS.f (K + j) b b = some true := fun j => by rw [laws_eqIntS_eq b b (by omega) _ (by omega)]; simp
    have hi : ∀ j, impl_EncodeInts.f (K + j) b = some (ei b) := fun j => impl_EI_eq b z_b _ (by omega)
    have hs : ∀ j, spec_EncodeInts.f (K + j) b = some (ei b) := fun j => spec_EI_eq b z_b _ (by omega)
    have he : ∀ j, laws_eqByteS.f (K + j) (ei b) (ei b) = some true := fun j => by rw [laws_eqByteS_eq _ _ (by omega) _ (by omega)]; simp
    have hm_0 : ∀ j, ∃ m, laws_markIntS.f (K + j) b (1 : Int) = some (((1 : Int) + (b.length : Int)), m) := fun j => laws_markIntS_ends b (1 : Int) (by omega) (by omega) _ (by omega)
    have n1 : ¬ (((1 : Int) + (b.length : Int)) < 0) := by omega
    obtain ⟨mm, hmm⟩ := laws_markByteS_held (ei b) 1 (by omega) (by omega)
    have hk1 : ∀ j, laws_markByteS.f (K + j) (ei b) 1 = some (1 + (((ei b)).length : Int), mm) := fun j => (hmm _ (by omega)).1
    have hk2 : ∀ j, laws_heldByteS.f (K + j) mm 1 = some (1 + (((ei b)).length : Int)) := fun j => (hmm _ (by omega)).2
    have n2 : ¬ ((1 : Int) + (((ei b)).length : Int) < 0) := by omega
    obtain ⟨m_0, hmk_0⟩ := hm_0 8
    simp only [laws_FnExactEncodeInts.j0, h1_0, h2_0, hi, hs, he, hk1, hk2, hmk_0, n1, n2, Option.bind_some, if_true, if_false, Bool.not_true, Bool.false_eq_true]
  · rw [if_pos (by omega)]
end Go.Proofs.Ytomnploadmbagaa.Pure
/-- The row names this lemma from inside this namespace. -/
theorem Go.Proofs.Ytomnploadmbagaa.PrintWords.sized_ints {H : Type} {enc : Go.TypeId × Go.Value → H} {P : Go.Program} {W : Go.World} {base : Nat} {spare : Nat → Bool} {held : Bool} {t e : Go.TypeId} {k : Go.IntKind} {a : Option Go.Addr} {len cap : Nat} {d : Go.DataW H} {ps : List Go.MemPlace} {ts : List Go.TypeId} {ds : List (Go.DataW H)} {j : Nat}
    (hsz : (Go.DataW.weightsEach P ts ds).all (· ≤ Go.reachBytes) = true) (ht : ts[j]? = some t) (hd : ds[j]? = some d) (hu : P.underlying t = some (.slice e)) (he : P.underlying e = some (.int k)) (hc : P.cellsOf e = 1) {B : Nat} (hB : P.bytesOf e = B)
    (h : Go.DataW.Trod enc P W base spare held t (.slice a len cap) d ps) : len * B ≤ 140737488351232 :=
  Go.Proofs.YtomnploadmbagaaW.PrintWords.sized_ints hsz ht hd hu he hc hB h
