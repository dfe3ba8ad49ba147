/- The program's DecodeInts answers as the reference's does, for all byte strings, offsets and counts, leaves its argument alone and hands back memory of its own. Conditions: none. -/
import Derived.Test.YtomnploadmbagaaPFnExactDecodeIntsx3
import Derived.OpenShut
import Derived.Test.YtomnploadmbagaaWSized
namespace Go.Proofs.Ytomnploadmbagaa.Pure
open Go.RowKit Go.Proofs.Ytomnploadmbagaa.PFnExactDecodeInts Go.Proofs.YtomnploadmbagaaW.PrintWords Go.Proofs.YtomnploadmbagaaW.PrintLast
theorem wr {i : Int} (h0 : -9223372036854775808 ≤ i) (h : i ≤ 9223372036854775807) : wrap64 i = i := by unfold wrap64; omega
theorem wrs {i : Nat} (h : i < 9223372036854775807) : wrap64 ((i : Int) + 1) = ((i + 1 : Nat) : Int) := by unfold wrap64; omega
theorem rd_nat (l : List Int) (i : Nat) (h : i < l.length) : rd l (i : Int) = l[i] := by simp [rd, h]
theorem rd_some (l : List Int) (i : Nat) (h : i < l.length) : l[i]? = some (rd l (i : Int)) := by rw [rd_nat l i h, List.getElem?_eq_getElem h]
theorem rounds_succ {d k : Nat} (h : d < k) : ∃ m, k = m + 1 := ⟨k - 1, by omega⟩
theorem laws_toByteS_l (l : List Int) (hl : l.length ≤ 1048576) : ∀ (d k i : Nat) (xs : List Int), xs.length = l.length → (∀ j, j < i → xs[j]? = l[j]?) → i + d = l.length → d < k → laws_toByteS.l0 k l xs i = some l := by
  intro d
  induction d with
  | zero =>
    intro k i xs hx hp hd hk
    obtain ⟨k, rfl⟩ := rounds_succ hk
    simp only [laws_toByteS.l0]; rw [if_neg (by omega)]
    congr 1
    refine List.ext_getElem? fun j => ?_
    by_cases hj : j < i
    · exact hp j hj
    · rw [List.getElem?_eq_none (by omega), List.getElem?_eq_none (by omega)]
  | succ d ih =>
    intro k i xs hx hp hd hk
    obtain ⟨k, rfl⟩ := rounds_succ hk
    simp only [laws_toByteS.l0]; rw [if_pos (by omega), if_pos (by omega), if_pos (by omega), wrs (by omega), Int.toNat_natCast]
    refine ih k (i + 1) _ (by simp [hx]) ?_ (by omega) (by omega)
    intro j hj
    rw [List.getElem?_set]
    by_cases e : i = j
    · subst e; rw [if_pos rfl, if_pos (by omega), rd_some l i (by omega)]
    · rw [if_neg e]; exact hp j (by omega)
theorem laws_toByteS_eq (l : List Int) (hl : l.length ≤ 1048576) (k : Nat) (hk : l.length < k) : laws_toByteS.f k l = some l := by
  unfold laws_toByteS.f
  rw [if_pos (by omega), if_pos (by omega)]
  exact laws_toByteS_l l hl l.length k 0 _ (by simp) (fun j hj => by omega) (by omega) hk
theorem laws_eqByteS_l (a b : List Int) (hl : a.length ≤ 1099511627776) (hab : a.length = b.length) : ∀ (d k i : Nat), (∀ j, j < i → a[j]? = b[j]?) → i + d = a.length → d < k → laws_eqByteS.l0 k a b i = some (decide (a = b)) := by
  intro d
  induction d with
  | zero =>
    intro k i hp hd hk
    obtain ⟨k, rfl⟩ := rounds_succ hk
    simp only [laws_eqByteS.l0]; rw [if_neg (by omega)]
    have : a = b := by
      refine List.ext_getElem? fun j => ?_
      by_cases hj : j < i
      · exact hp j hj
      · rw [List.getElem?_eq_none (by omega), List.getElem?_eq_none (by omega)]
    simp [this]
  | succ d ih =>
    intro k i hp hd hk
    obtain ⟨k, rfl⟩ := rounds_succ hk
    simp only [laws_eqByteS.l0]; rw [if_pos (by omega), if_pos (by omega), if_pos (by omega)]
    by_cases e : rd a i = rd b i
    · rw [if_pos e, wrs (by omega)]
      refine ih k (i + 1) ?_ (by omega) (by omega)
      intro j hj
      by_cases e' : j = i
      · subst e'; rw [rd_some a j (by omega), rd_some b j (by omega), e]
      · exact hp j (by omega)
    · rw [if_neg e]
      have : ¬ a = b := fun h => e (by rw [h])
      simp [this]
theorem laws_eqByteS_eq (a b : List Int) (hl : a.length ≤ 1099511627776) (k : Nat) (hk : a.length < k) : laws_eqByteS.f k a b = some (decide (a = b)) := by
  unfold laws_eqByteS.f
  by_cases h : a.length = b.length
  · rw [if_pos (by omega)]
    exact laws_eqByteS_l a b hl h a.length k 0 (fun j hj => by omega) (by omega) hk
  · rw [if_neg (by omega)]
    have : ¬ a = b := fun e => h (by rw [e])
    simp [this]
theorem laws_eqIntS_l (a b : List Int) (hl : a.length ≤ 1099511627776) (hab : a.length = b.length) : ∀ (d k i : Nat), (∀ j, j < i → a[j]? = b[j]?) → i + d = a.length → d < k → laws_eqIntS.l0 k a b i = some (decide (a = b)) := by
  intro d
  induction d with
  | zero =>
    intro k i hp hd hk
    obtain ⟨k, rfl⟩ := rounds_succ hk
    simp only [laws_eqIntS.l0]; rw [if_neg (by omega)]
    have : a = b := by
      refine List.ext_getElem? fun j => ?_
      by_cases hj : j < i
      · exact hp j hj
      · rw [List.getElem?_eq_none (by omega), List.getElem?_eq_none (by omega)]
    simp [this]
  | succ d ih =>
    intro k i hp hd hk
    obtain ⟨k, rfl⟩ := rounds_succ hk
    simp only [laws_eqIntS.l0]; rw [if_pos (by omega), if_pos (by omega), if_pos (by omega)]
    by_cases e : rd a i = rd b i
    · rw [if_pos e, wrs (by omega)]
      refine ih k (i + 1) ?_ (by omega) (by omega)
      intro j hj
      by_cases e' : j = i
      · subst e'; rw [rd_some a j (by omega), rd_some b j (by omega), e]
      · exact hp j (by omega)
    · rw [if_neg e]
      have : ¬ a = b := fun h => e (by rw [h])
      simp [this]
theorem laws_eqIntS_eq (a b : List Int) (hl : a.length ≤ 1099511627776) (k : Nat) (hk : a.length < k) : laws_eqIntS.f k a b = some (decide (a = b)) := by
  unfold laws_eqIntS.f
  by_cases h : a.length = b.length
  · rw [if_pos (by omega)]
    exact laws_eqIntS_l a b hl h a.length k 0 (fun j hj => by omega) (by omega) hk
  · rw [if_neg (by omega)]
    have : ¬ a = b := fun e => h (by rw [e])
    simp [this]
theorem laws_markByteS_e (a0 : Int) (n : Nat) (h0 : 0 ≤ a0) (h1 : a0 + n ≤ 4611686018427387904) : ∀ (d k i : Nat) (x : List Int) (a : Int), x.length = n → a = a0 + i → i + d = n → d < k →
    ∃ m, laws_markByteS.l0 k x a i = some (a0 + n, m) := by
  intro d
  induction d with
  | zero =>
    intro k i x a hx ha hd hk
    obtain ⟨k, rfl⟩ := rounds_succ hk
    simp only [laws_markByteS.l0]; rw [if_neg (by omega)]
    exact ⟨x, by rw [ha]; congr 2; omega⟩
  | succ d ih =>
    intro k i x a hx ha hd hk
    obtain ⟨k, rfl⟩ := rounds_succ hk
    simp only [laws_markByteS.l0]; rw [if_pos (by omega), if_pos (by omega), wrs (by omega), wr (i := a + 1) (by omega) (by omega), Int.toNat_natCast]
    exact ih k (i + 1) _ _ (by simp [hx]) (by omega) (by omega) (by omega)
theorem laws_markByteS_ends (l : List Int) (a : Int) (h0 : 0 ≤ a) (h1 : a + l.length ≤ 4611686018427387904) (k : Nat) (hk : l.length < k) : ∃ m, laws_markByteS.f k l a = some (a + l.length, m) :=
  laws_markByteS_e a l.length h0 h1 l.length k 0 l a rfl (by omega) (by omega) hk
theorem laws_markIntS_l (a0 : Int) (n : Nat) (h0 : 0 ≤ a0) (h1 : a0 + n ≤ 4611686018427387904) : ∀ (d k i : Nat) (x : List Int) (a : Int), x.length = n → a = a0 + i → (∀ j, j < i → x[j]? = some ((a0 + (j : Int)))) → i + d = n → d < k →
    laws_markIntS.l0 k x a i = some (a0 + n, (List.range n).map fun (j : Nat) => (a0 + (j : Int))) := by
  intro d
  induction d with
  | zero =>
    intro k i x a hx ha hp hd hk
    obtain ⟨k, rfl⟩ := rounds_succ hk
    simp only [laws_markIntS.l0]; rw [if_neg (by omega)]
    have : x = (List.range n).map fun (j : Nat) => (a0 + (j : Int)) := by
      refine List.ext_getElem? fun j => ?_
      by_cases hj : j < n
      · rw [hp j (by omega), List.getElem?_map, List.getElem?_range hj]; rfl
      · rw [List.getElem?_eq_none (by omega), List.getElem?_eq_none (by simp; omega)]
    rw [this, ha]; congr 2; omega
  | succ d ih =>
    intro k i x a hx ha hp hd hk
    obtain ⟨k, rfl⟩ := rounds_succ hk
    simp only [laws_markIntS.l0]; rw [if_pos (by omega), if_pos (by omega), wrs (by omega), wr (i := a + 1) (by omega) (by omega), Int.toNat_natCast]
    refine ih k (i + 1) _ _ (by simp [hx]) (by omega) ?_ (by omega) (by omega)
    intro j hj
    rw [List.getElem?_set]
    by_cases e : i = j
    · subst e; rw [if_pos rfl, if_pos (by omega), ha]
    · rw [if_neg e]; exact hp j (by omega)
theorem laws_heldIntS_l (a0 : Int) (n : Nat) (h0 : 0 ≤ a0) (h1 : a0 + n ≤ 4611686018427387904) : ∀ (d k i : Nat) (a : Int), a = a0 + i → i + d = n → d < k →
    laws_heldIntS.l0 k ((List.range n).map fun (j : Nat) => (a0 + (j : Int))) a i = some (a0 + n) := by
  intro d
  induction d with
  | zero =>
    intro k i a ha hd hk
    obtain ⟨k, rfl⟩ := rounds_succ hk
    simp only [laws_heldIntS.l0]; rw [if_neg (by simp; omega)]
    rw [ha]; congr 1; omega
  | succ d ih =>
    intro k i a ha hd hk
    obtain ⟨k, rfl⟩ := rounds_succ hk
    simp only [laws_heldIntS.l0]; rw [if_pos (by simp; omega), if_pos (by omega), wrs (by omega), wr (i := a + 1) (by omega) (by omega)]
    rw [if_pos (by rw [rd_nat _ _ (by simp; omega)]; simp [ha])]
    exact ih k (i + 1) _ (by omega) (by omega) (by omega)
theorem laws_markIntS_held (l : List Int) (a : Int) (h0 : 0 ≤ a) (h1 : a + l.length ≤ 4611686018427387904) : ∃ m, ∀ k, l.length < k → laws_markIntS.f k l a = some (a + l.length, m) ∧ laws_heldIntS.f k m a = some (a + l.length) :=
  ⟨(List.range l.length).map fun (j : Nat) => (a + (j : Int)), fun k hk => ⟨laws_markIntS_l a l.length h0 h1 l.length k 0 l a rfl (by omega) (fun j hj => by omega) (by omega) hk, laws_heldIntS_l a l.length h0 h1 l.length k 0 a (by omega) (by omega) hk⟩⟩
theorem wraps_i64 (n : Int) (h₀ : 0 ≤ n) (h₁ : n < 2 ^ 63) : IntKind.i64.wrap n = n := by rw [IntKind.wrap_i64]; omega
theorem and127 (n : Int) (h0 : 0 ≤ n) (h1 : n < 9223372036854775808) : Go.bits .and .i64 n 127 = n % 128 := bits_mask .i64 63 (by decide) wraps_i64 7 (by decide) n h0 h1
theorem and127u (n : Int) (h0 : 0 ≤ n) (h1 : n < 256) : Go.bits .and .u8 n 127 = n % 128 := bits_mask .u8 8 (by decide) wraps_u8 7 (by decide) n h0 h1
theorem or_add (k : IntKind) (j : Nat) (hj : j ≤ k.bits) (hk : ∀ n : Int, 0 ≤ n → n < 2 ^ j → k.wrap n = n) (i : Nat)
    (x y : Int) (hx₀ : 0 ≤ x) (hx : x % 2 ^ i = 0) (hx₁ : x < 2 ^ j) (hy₀ : 0 ≤ y) (hy : y < 2 ^ i) (hy₁ : y < 2 ^ j) : Go.bits .or k y x = y + x := by
  have h := bits_join k j hj hk i x y hx₀ hx hx₁ hy₀ hy hy₁
  rw [Int.add_comm, ← h]
  obtain ⟨a, rfl⟩ := Int.eq_ofNat_of_zero_le hx₀
  obtain ⟨b, rfl⟩ := Int.eq_ofNat_of_zero_le hy₀
  have ha : a < 2 ^ j := by exact_mod_cast hx₁
  have hb : b < 2 ^ j := by exact_mod_cast hy₁
  rw [(bits_nat k j hj hk b a hb ha).2, (bits_nat k j hj hk a b ha hb).2, Nat.or_comm]
theorem or128 (y : Int) (h0 : 0 ≤ y) (h1 : y < 128) : Go.bits .or .i64 y 128 = y + 128 := or_add .i64 63 (by decide) wraps_i64 7 128 y (by decide) (by decide) (by decide) h0 h1 (by omega)
theorem or128u (y : Int) (h0 : 0 ≤ y) (h1 : y < 128) : Go.bits .or .u8 y 128 = y + 128 := or_add .u8 8 (by decide) wraps_u8 7 128 y (by decide) (by decide) (by decide) h0 h1 (by omega)
theorem in_i64 {n : Int} (h : (Lit.int .i64 n).wf = true) : -9223372036854775808 ≤ n ∧ n ≤ 9223372036854775807 := bounds_i64 h
theorem in_u8 {n : Int} (h : (Lit.int .u8 n).wf = true) : 0 ≤ n ∧ n ≤ 255 := bounds_u8 h
theorem take_rd (l : List Int) (i : Nat) (h : i < l.length) : l.take (i + 1) = l.take i ++ [rd l i] := by rw [rd_nat l i h, List.take_add_one, List.getElem?_eq_getElem h]; rfl
theorem wrb (l : List Int) (hw : ∀ x ∈ l, (Lit.int .u8 x).wf = true) (i : Nat) (h : i < l.length) : 0 ≤ rd l i ∧ rd l i ≤ 255 := by
  rw [rd_nat l i h]; exact in_u8 (hw _ (List.getElem_mem h))
theorem orshl (n v : Int) (s : Nat) (y : Int) (hy : y = s) (hs : s ≤ 35) (h0 : 0 ≤ n) (h1 : n < 2 ^ s) (v0 : 0 ≤ v) (v1 : v < 128) : Go.bits .or .i64 n (shl .i64 v y) = n + v * 2 ^ s := by
  have hp : (2 : Int) ^ s ≤ 2 ^ 35 := by exact_mod_cast Nat.pow_le_pow_right (show 2 > 0 by omega) hs
  have hp0 : (0 : Int) < 2 ^ s := by exact_mod_cast Nat.two_pow_pos s
  have hv0 : 0 ≤ v * 2 ^ s := Int.mul_nonneg v0 (by omega)
  have hv1 : v * 2 ^ s ≤ 127 * 2 ^ 35 := Int.le_trans (Int.mul_le_mul_of_nonneg_right (show v ≤ 127 by omega) (by omega)) (Int.mul_le_mul_of_nonneg_left hp (by omega))
  unfold shl
  rw [hy, Int.toNat_natCast, Nat.min_eq_left (by simp [IntKind.bits]; omega), wraps_i64 _ hv0 (by omega)]
  exact or_add .i64 63 (by decide) wraps_i64 s (v * 2 ^ s) n hv0 (Int.mul_emod_left v _) (by omega) h0 h1 (by omega)
theorem wra (a j : Nat) (h : a + j ≤ 9223372036854775807) : wrap64 ((a : Int) + (j : Int)) = ((a + j : Nat) : Int) := by rw [wr (by omega) (by omega)]; omega
theorem wr7 (j : Nat) (h : j ≤ 1000) : wrap64 (7 * (j : Int)) = ((7 * j : Nat) : Int) := by rw [wr (by omega) (by omega)]; omega
def rv : Nat → Nat → Int → List Int → Option (Int × Nat)
  | 0, _, _, _ => none
  | _ + 1, _, _, [] => none
  | f + 1, j, n, v :: R => if v < 128 then (if (0 < j ∧ v = 0) ∨ n + v * 2 ^ (7 * j) > 1000000000000 then none else some (n + v * 2 ^ (7 * j), j + 1)) else rv f (j + 1) (n + (v % 128) * 2 ^ (7 * j)) R
def rvo (a : Nat) : Option (Int × Nat) → Int × Int × Bool
  | none => (0, 0, false)
  | some (n, c) => (n, ((a + c : Nat) : Int), true)
def ru (b : List Int) (a : Int) : Int × Int × Bool := if a < 0 then (0, 0, false) else rvo a.toNat (rv 6 0 0 (b.drop a.toNat))
theorem pow_step (j : Nat) (n v : Int) (h1 : n < 2 ^ (7 * j)) (v1 : v < 128) : n + v * 2 ^ (7 * j) < 2 ^ (7 * (j + 1)) := by
  have hp0 : (0 : Int) < 2 ^ (7 * j) := by exact_mod_cast Nat.two_pow_pos (7 * j)
  have e : (2 : Int) ^ (7 * (j + 1)) = 2 ^ (7 * j) * 128 := by rw [show 7 * (j + 1) = 7 * j + 7 by omega, Int.pow_add]; rfl
  have : v * 2 ^ (7 * j) ≤ 127 * 2 ^ (7 * j) := Int.mul_le_mul_of_nonneg_right (by omega) (by omega)
  rw [e]; omega
theorem nn_step (j : Nat) (n v : Int) (h0 : 0 ≤ n) (v0 : 0 ≤ v) : 0 ≤ n + v * 2 ^ (7 * j) := by
  have hp0 : (0 : Int) < 2 ^ (7 * j) := by exact_mod_cast Nat.two_pow_pos (7 * j)
  have := Int.mul_nonneg v0 (show (0 : Int) ≤ 2 ^ (7 * j) by omega)
  omega
theorem rv_bd (f : Nat) : ∀ (j : Nat) (n : Int) (R : List Int) (m : Int) (c : Nat), 0 ≤ n → (∀ v ∈ R, 0 ≤ v) → rv f j n R = some (m, c) → 0 ≤ m ∧ m ≤ 1000000000000 ∧ j < c ∧ c ≤ j + R.length ∧ c ≤ j + f := by
  induction f with
  | zero => intro j n R m c _ _ h; simp [rv] at h
  | succ f ih =>
    intro j n R m c h0 hR h
    cases R with
    | nil => simp [rv] at h
    | cons v R =>
      have hv := hR v (List.mem_cons_self ..)
      simp only [rv] at h
      split at h
      · split at h
        · cases h
        · rename_i hn
          injection h with h; injection h with h1 h2
          subst h1 h2
          have := nn_step j n v h0 hv
          simp only [List.length_cons]
          refine ⟨this, ?_, by omega, by omega, by omega⟩
          by_cases e : n + v * 2 ^ (7 * j) > 1000000000000
          · exact absurd (.inr e) hn
          · omega
      · have := ih (j + 1) _ R m c (nn_step j n (v % 128) h0 (by omega)) (fun v hv => hR v (List.mem_cons_of_mem _ hv)) h
        simp only [List.length_cons]; omega
theorem dropn_nil (b : List Int) (i : Nat) (h : b.drop i = []) : b.length ≤ i := by
  have := congrArg List.length h
  simp at this; omega
theorem dropn_cons (b : List Int) (i : Nat) (c : Int) (t : List Int) (h : b.drop i = c :: t) : i < b.length ∧ rd b i = c ∧ b.drop (i + 1) = t := by
  have hl := congrArg List.length h
  simp at hl
  have hi : i < b.length := by omega
  rw [List.drop_eq_getElem_cons hi, ← rd_nat b i hi] at h
  exact ⟨hi, by injection h, by injection h⟩
theorem impl_RU_l (b : List Int) (hb : b.length ≤ 140737488351232) (hw : ∀ x ∈ b, (Lit.int .u8 x).wf = true) (a : Nat) : ∀ (f k j : Nat) (n : Int) (R : List Int), j + f = 6 → b.drop (a + j) = R → 0 ≤ n → n < 2 ^ (7 * j) → a + j ≤ b.length → f < k → impl_ReadUvarint.l0 k b a n j = some (rvo a (rv f j n R)) := by
  intro f
  induction f with
  | zero =>
    intro k j n R hj hR h0 h1 ha hk
    obtain ⟨k, rfl⟩ := rounds_succ hk
    simp only [impl_ReadUvarint.l0]; rw [if_neg (by omega)]; rfl
  | succ f ih =>
    intro k j n R hj hR h0 h1 ha hk
    obtain ⟨k, rfl⟩ := rounds_succ hk
    simp only [impl_ReadUvarint.l0]; rw [if_pos (by omega), wra a j (by omega)]
    cases R with
    | nil =>
      have := dropn_nil b _ hR
      rw [if_pos (by omega)]; rfl
    | cons v R =>
      obtain ⟨g1, g2, g3⟩ := dropn_cons b _ v R hR
      have hv : 0 ≤ v ∧ v ≤ 255 := by rw [← g2]; exact wrb b hw _ g1
      rw [if_neg (by omega), if_pos (by omega), if_pos (by omega), wr7 j (by omega), if_pos (by omega), g2, and127u v hv.1 (by omega), wr (i := v % 128) (by omega) (by omega), orshl n (v % 128) (7 * j) _ rfl (by omega) h0 h1 (by omega) (by omega)]
      simp only [rv]
      by_cases h128 : v < 128
      · have hm : v % 128 = v := by omega
        rw [if_pos h128, if_pos h128, show wrap64 (((a + j : Nat) : Int) + 1) = ((a + (j + 1) : Nat) : Int) from wrs (by omega), hm]
        clear ih h1 hm
        generalize n + v * 2 ^ (7 * j) = P
        by_cases hj0 : 0 < j
        · have hj1 : (j : Int) > 0 := by omega
          rw [if_pos hj1]
          by_cases hv0 : v = 0
          · have hc : (0 < j ∧ v = 0) ∨ P > 1000000000000 := .inl ⟨hj0, hv0⟩
            rw [if_pos hv0, if_pos hc]; rfl
          · rw [if_neg hv0]
            by_cases hm : P > 1000000000000
            · have hc : (0 < j ∧ v = 0) ∨ P > 1000000000000 := .inr hm
              rw [if_pos hm, if_pos hc]; rfl
            · have hc : ¬ ((0 < j ∧ v = 0) ∨ P > 1000000000000) := fun h => h.elim (fun h => hv0 h.2) hm
              rw [if_neg hm, if_neg hc]; rfl
        · have hj1 : ¬ ((j : Int) > 0) := by omega
          rw [if_neg hj1]
          by_cases hm : P > 1000000000000
          · have hc : (0 < j ∧ v = 0) ∨ P > 1000000000000 := .inr hm
            rw [if_pos hm, if_pos hc]; rfl
          · have hc : ¬ ((0 < j ∧ v = 0) ∨ P > 1000000000000) := fun h => h.elim (fun h => hj0 h.1) hm
            rw [if_neg hm, if_neg hc]; rfl
      · rw [if_neg h128, if_neg h128, wrs (by omega)]
        exact ih k (j + 1) _ R (by omega) (by rw [show a + (j + 1) = a + j + 1 from rfl]; exact g3) (nn_step j n _ h0 (by omega)) (pow_step j n _ h1 (by omega)) (by omega) (by omega)
theorem impl_RU_eq (b : List Int) (hb : b.length ≤ 140737488351232) (hw : ∀ x ∈ b, (Lit.int .u8 x).wf = true) (a : Int) (k : Nat) (hk : 7 < k) : impl_ReadUvarint.f k b a = some (ru b a) := by
  obtain ⟨k, rfl⟩ := rounds_succ hk
  unfold impl_ReadUvarint.f ru
  by_cases h0 : a < 0
  · rw [if_pos h0, if_pos h0]; simp [impl_ReadUvarint.j0]
  · rw [if_neg h0, if_neg h0]
    simp only [impl_ReadUvarint.j0]
    by_cases h1 : a ≥ (b.length : Int)
    · rw [if_pos (by simp [h1]), List.drop_eq_nil_of_le (by omega)]; rfl
    · rw [if_neg (by simp; omega)]
      have := impl_RU_l b hb hw a.toNat 6 k 0 0 (b.drop a.toNat) rfl rfl (by omega) (by simp) (by omega) (by omega)
      rwa [show ((a.toNat : Nat) : Int) = a by omega] at this
theorem ru_bd (b : List Int) (hw : ∀ x ∈ b, (Lit.int .u8 x).wf = true) (a n at_ : Int) (h : ru b a = (n, at_, true)) : 0 ≤ n ∧ n ≤ 1000000000000 ∧ 0 ≤ at_ ∧ at_ ≤ (b.length : Int) := by
  unfold ru at h
  split at h
  · simp at h
  · rename_i h0
    cases e : rv 6 0 0 (b.drop a.toNat) with
    | none => rw [e] at h; simp [rvo] at h
    | some r =>
      obtain ⟨m, c⟩ := r
      rw [e] at h
      simp only [rvo, Prod.mk.injEq] at h
      obtain ⟨rfl, h2, _⟩ := h
      obtain ⟨g1, g2, g3, g4, _⟩ := rv_bd 6 0 0 _ m c (by omega) (fun v hv => (in_u8 (hw v (List.mem_of_mem_drop hv))).1) e
      rw [List.length_drop] at g4
      omega
def rb (b : List Int) (a m : Int) : List Int × Int × Bool :=
  match ru b a with
  | (n, at_, true) => if n > m ∨ n > (b.length : Int) - at_ then ([], 0, false) else ((b.take (at_ + n).toNat).drop at_.toNat, at_ + n, true)
  | _ => ([], 0, false)
theorem rb_len (b : List Int) (a m : Int) : (rb b a m).1.length ≤ b.length := by
  unfold rb
  split
  · split
    · simp
    · simp; omega
  · simp
def dil (b : List Int) : Nat → Int → List Int → List Int × Int × Bool
  | 0, a, o => (o, a, true)
  | c + 1, a, o => match ru b a with
    | (n, at_, true) => dil b c at_ (o ++ [n])
    | _ => ([], 0, false)
def di (b : List Int) (a c : Int) : List Int × Int × Bool := if (0 ≤ c ∧ c ≤ 100) ∧ (0 ≤ a ∧ a ≤ (b.length : Int)) then dil b c.toNat a [] else ([], 0, false)
theorem dil_len (b : List Int) : ∀ (c : Nat) (a : Int) (o : List Int), (dil b c a o).1.length ≤ o.length + c := by
  intro c
  induction c with
  | zero => intro a o; simp [dil]
  | succ c ih =>
    intro a o
    simp only [dil]
    split
    · rename_i n at_ _
      have := ih at_ (o ++ [n])
      rw [List.length_append, List.length_singleton] at this
      omega
    · simp
theorem di_len (b : List Int) (a c : Int) : (di b a c).1.length ≤ 100 := by
  unfold di
  split
  · have := dil_len b c.toNat a []
    simp at this; omega
  · simp
theorem impl_InRange_eq (a b c : Int) : impl_InRange.f a b c = some (decide (b ≤ a ∧ a ≤ c)) := by
  unfold impl_InRange.f; by_cases h : b ≤ a <;> simp [h]
theorem spec_l1In_eq (a b c : Int) : spec_l1In.f a b c = some (decide (b ≤ a ∧ a ≤ c)) := by
  unfold spec_l1In.f; by_cases h : b ≤ a <;> simp [h]
theorem impl_DI_l (b : List Int) (hb : b.length ≤ 1048576) (hw : ∀ x ∈ b, (Lit.int .u8 x).wf = true) (c : Int) (hc : c ≤ 100) : ∀ (d k i : Nat) (a : Int) (o : List Int), (i : Int) + d = c → o.length ≤ i → d + 15 < k → impl_DecodeInts.l0 k b a o c i = some (dil b d a o) := by
  intro d
  induction d with
  | zero =>
    intro k i a o hd ho hk
    obtain ⟨k, rfl⟩ := rounds_succ hk
    simp only [impl_DecodeInts.l0]; rw [if_neg (by omega)]; rfl
  | succ d ih =>
    intro k i a o hd ho hk
    obtain ⟨k, rfl⟩ := rounds_succ hk
    simp only [impl_DecodeInts.l0]; rw [if_pos (by omega), impl_RU_eq b (by omega) hw a k (by omega), Option.bind_some]
    simp only [dil]
    cases h : ru b a with
    | mk n r =>
      obtain ⟨at_, ok⟩ := r
      cases ok with
      | false => simp
      | true =>
        simp only [if_true]
        rw [if_pos (by omega), wrs (by omega)]
        exact ih k (i + 1) at_ (o ++ [n]) (by omega) (by rw [List.length_append, List.length_singleton]; omega) (by omega)
theorem impl_DI_eq (b : List Int) (hb : b.length ≤ 1048576) (hw : ∀ x ∈ b, (Lit.int .u8 x).wf = true) (a c : Int) (k : Nat) (hk : 120 < k) : impl_DecodeInts.f k b a c = some (di b a c) := by
  obtain ⟨k, rfl⟩ := rounds_succ hk
  unfold impl_DecodeInts.f di
  rw [impl_InRange_eq, Option.bind_some, impl_InRange_eq]
  simp only [impl_DecodeInts.j0, Option.bind_some]
  by_cases h1 : 0 ≤ c ∧ c ≤ 100
  · rw [if_pos (by simp [h1])]
    by_cases h2 : 0 ≤ a ∧ a ≤ (b.length : Int)
    · rw [if_neg (by simp [h2]), if_pos ⟨h1, h2⟩]
      exact impl_DI_l b hb hw c h1.2 c.toNat k 0 a [] (by omega) (by simp) (by omega)
    · rw [if_pos (by simp only [h2, decide_false, Bool.not_false]), if_neg (fun h => h2 h.2)]
  · rw [if_neg (by simp only [h1, decide_false, Bool.false_eq_true, not_false_eq_true]), if_pos True.intro, if_neg (fun h => h1 h.1)]
theorem spec_RU_l (b : List Int) (hb : b.length ≤ 140737488351232) (hw : ∀ x ∈ b, (Lit.int .u8 x).wf = true) (a : Nat) : ∀ (f k j : Nat) (n : Int) (R : List Int), j + f = 6 → b.drop (a + j) = R → 0 ≤ n → n < 2 ^ (7 * j) → 2 * f + 1 < k → spec_ReadUvarint.l0 k b a n j = some (rvo a (rv f j n R)) := by
  intro f
  induction f with
  | zero =>
    intro k j n R hj hR h0 h1 hk
    obtain ⟨k, rfl⟩ := rounds_succ hk
    simp only [spec_ReadUvarint.l0]; rw [if_neg (by omega)]; rfl
  | succ f ih =>
    intro k j n R hj hR h0 h1 hk
    obtain ⟨k, rfl⟩ := rounds_succ hk
    obtain ⟨k, rfl⟩ := rounds_succ (show 0 < k by omega)
    simp only [spec_ReadUvarint.l0]; rw [if_pos (by omega), if_neg (by omega), wr (i := (b.length : Int) - j) (by omega) (by omega)]
    simp only [spec_ReadUvarint.j1]
    cases R with
    | nil =>
      have := dropn_nil b _ hR
      rw [if_pos (by simp; omega)]; rfl
    | cons v R =>
      obtain ⟨g1, g2, g3⟩ := dropn_cons b _ v R hR
      have hv : 0 ≤ v ∧ v ≤ 255 := by rw [← g2]; exact wrb b hw _ g1
      rw [if_neg (by simp; omega), wra a j (by omega), if_pos (by omega), if_pos (by omega), wr7 j (by omega), if_pos (by omega), g2, wr (i := v) (by omega) (by omega), and127 v hv.1 (by omega), orshl n (v % 128) (7 * j) _ rfl (by omega) h0 h1 (by omega) (by omega)]
      simp only [rv]
      by_cases h128 : v < 128
      · have hm : v % 128 = v := by omega
        rw [if_pos h128, if_pos h128, show wrap64 (((a + j : Nat) : Int) + 1) = ((a + (j + 1) : Nat) : Int) from wrs (by omega), hm]
        clear ih h1 hm
        generalize n + v * 2 ^ (7 * j) = P
        by_cases hv0 : v = 0
        · rw [if_pos hv0]
          by_cases hj0 : 0 < j
          · have hj1 : (j : Int) > 0 := by omega
            have hc : (0 < j ∧ v = 0) ∨ P > 1000000000000 := .inl ⟨hj0, hv0⟩
            rw [if_pos hj1, if_pos hc]; rfl
          · have hj1 : ¬ ((j : Int) > 0) := by omega
            rw [if_neg hj1]
            by_cases hm : P > 1000000000000
            · have hc : (0 < j ∧ v = 0) ∨ P > 1000000000000 := .inr hm
              rw [if_pos hm, if_pos hc]; rfl
            · have hc : ¬ ((0 < j ∧ v = 0) ∨ P > 1000000000000) := fun h => h.elim (fun h => hj0 h.1) hm
              rw [if_neg hm, if_neg hc]; rfl
        · rw [if_neg hv0]
          by_cases hm : P > 1000000000000
          · have hc : (0 < j ∧ v = 0) ∨ P > 1000000000000 := .inr hm
            rw [if_pos hm, if_pos hc]; rfl
          · have hc : ¬ ((0 < j ∧ v = 0) ∨ P > 1000000000000) := fun h => h.elim (fun h => hv0 h.2) hm
            rw [if_neg hm, if_neg hc]; rfl
      · rw [if_neg h128, if_neg h128, wrs (by omega)]
        exact ih k (j + 1) _ R (by omega) (by rw [show a + (j + 1) = a + j + 1 from rfl]; exact g3) (nn_step j n _ h0 (by omega)) (pow_step j n _ h1 (by omega)) (by omega)
theorem spec_RU_eq (b : List Int) (hb : b.length ≤ 140737488351232) (hw : ∀ x ∈ b, (Lit.int .u8 x).wf = true) (a : Int) (k : Nat) (hk : 14 < k) : spec_ReadUvarint.f k b a = some (ru b a) := by
  unfold spec_ReadUvarint.f ru
  by_cases h0 : a < 0
  · rw [if_pos h0]
    obtain ⟨k, rfl⟩ := rounds_succ hk
    obtain ⟨k, rfl⟩ := rounds_succ (show 0 < k by omega)
    simp only [spec_ReadUvarint.l0]; rw [if_pos (by omega), if_pos h0]; simp [spec_ReadUvarint.j1]
  · rw [if_neg h0]
    have := spec_RU_l b hb hw a.toNat 6 k 0 0 (b.drop a.toNat) rfl rfl (by omega) (by simp) (by omega)
    rwa [show ((a.toNat : Nat) : Int) = a by omega] at this
theorem spec_DI_l (b : List Int) (hb : b.length ≤ 1048576) (hw : ∀ x ∈ b, (Lit.int .u8 x).wf = true) (c : Int) (hc : c ≤ 100) : ∀ (d k i : Nat) (a : Int) (o : List Int), (i : Int) + d = c → o.length ≤ i → d + 15 < k → spec_DecodeInts.l0 k b a c o i = some (dil b d a o) := by
  intro d
  induction d with
  | zero =>
    intro k i a o hd ho hk
    obtain ⟨k, rfl⟩ := rounds_succ hk
    simp only [spec_DecodeInts.l0]; rw [if_neg (by omega)]; rfl
  | succ d ih =>
    intro k i a o hd ho hk
    obtain ⟨k, rfl⟩ := rounds_succ hk
    simp only [spec_DecodeInts.l0]; rw [if_pos (by omega), spec_RU_eq b (by omega) hw a k (by omega), Option.bind_some]
    simp only [dil]
    cases h : ru b a with
    | mk n r =>
      obtain ⟨at_, ok⟩ := r
      cases ok with
      | false => simp
      | true =>
        simp only [if_true]
        rw [if_pos (by omega), wrs (by omega)]
        exact ih k (i + 1) at_ (o ++ [n]) (by omega) (by rw [List.length_append, List.length_singleton]; omega) (by omega)
theorem spec_DI_eq (b : List Int) (hb : b.length ≤ 1048576) (hw : ∀ x ∈ b, (Lit.int .u8 x).wf = true) (a c : Int) (k : Nat) (hk : 120 < k) : spec_DecodeInts.f k b a c = some (di b a c) := by
  obtain ⟨k, rfl⟩ := rounds_succ hk
  unfold spec_DecodeInts.f di
  rw [Option.bind_some, spec_l1In_eq, Option.bind_some, spec_l1In_eq]
  simp only [spec_DecodeInts.j0, Option.bind_some]
  by_cases h1 : 0 ≤ c ∧ c ≤ 100
  · rw [if_pos (by simp [h1])]
    by_cases h2 : 0 ≤ a ∧ a ≤ (b.length : Int)
    · rw [if_neg (by simp [h2]), if_pos ⟨h1, h2⟩]
      exact spec_DI_l b hb hw c h1.2 c.toNat k 0 a [] (by omega) (by simp) (by omega)
    · rw [if_pos (by simp only [h2, decide_false, Bool.not_false]), if_neg (fun h => h2 h.2)]
  · rw [if_neg (by simp only [h1, decide_false, Bool.false_eq_true, not_false_eq_true]), if_pos True.intro, if_neg (fun h => h1 h.1)]
theorem FnExactDecodeInts : laws_FnExactDecodeInts.Pure := by
  intro b a c _ _ hw _ _
  obtain ⟨K, hK⟩ : ∃ K, K = (b).length + ((di b a c).1).length + 140 := ⟨_, rfl⟩
  refine ⟨K + 8, ?_⟩
  unfold laws_FnExactDecodeInts.f
  by_cases z_b : b.length ≤ 1048576
  · rw [if_neg (by omega)]
    have hr2 := di_len b a c
    have h1_0 : ∀ j, laws_toByteS.f (K + j) b = some b := fun j => laws_toByteS_eq b z_b _ (by omega)
    have h2_0 : ∀ j, laws_eqByteS.f (K + j) b b = some true := fun j => by rw [laws_eqByteS_eq b b (by omega) _ (by omega)]; simp
    have hi : ∀ j, impl_DecodeInts.f (K + j) b a c = some (di b a c) := fun j => impl_DI_eq b z_b hw a c _ (by omega)
    have hs : ∀ j, spec_DecodeInts.f (K + j) b a c = some (di b a c) := fun j => spec_DI_eq b z_b hw a c _ (by omega)
    have he : ∀ j, laws_eqIntS.f (K + j) (di b a c).1 (di b a c).1 = some true := fun j => by rw [laws_eqIntS_eq _ _ (by omega) _ (by omega)]; simp
    have hm_0 : ∀ j, ∃ m, laws_markByteS.f (K + j) b (1 : Int) = some (((1 : Int) + (b.length : Int)), m) := fun j => laws_markByteS_ends b (1 : Int) (by omega) (by omega) _ (by omega)
    have n1 : ¬ (((1 : Int) + (b.length : Int)) < 0) := by omega
    obtain ⟨mm, hmm⟩ := laws_markIntS_held (di b a c).1 1 (by omega) (by omega)
    have hk1 : ∀ j, laws_markIntS.f (K + j) (di b a c).1 1 = some (1 + (((di b a c).1).length : Int), mm) := fun j => (hmm _ (by omega)).1
    have hk2 : ∀ j, laws_heldIntS.f (K + j) mm 1 = some (1 + (((di b a c).1).length : Int)) := fun j => (hmm _ (by omega)).2
    have n2 : ¬ ((1 : Int) + (((di b a c).1).length : Int) < 0) := by omega
    obtain ⟨m_0, hmk_0⟩ := hm_0 7
    simp only [laws_FnExactDecodeInts.j0, laws_FnExactDecodeInts.j1, laws_FnExactDecodeInts.j2, h1_0, h2_0, hi, hs, he, hk1, hk2, hmk_0, n1, n2, bne_self_eq_false, Option.bind_some, if_true, if_false, Bool.false_eq_true]
  · rw [if_pos (by omega)]
end Go.Proofs.Ytomnploadmbagaa.Pure
/-- The row names this lemma from inside this namespace. -/
theorem Go.Proofs.Ytomnploadmbagaa.PrintWords.sized_ints {H : Type} {enc : Go.TypeId × Go.Value → H} {P : Go.Program} {W : Go.World} {base : Nat} {spare : Nat → Bool} {held : Bool} {t e : Go.TypeId} {k : Go.IntKind} {a : Option Go.Addr} {len cap : Nat} {d : Go.DataW H} {ps : List Go.MemPlace} {ts : List Go.TypeId} {ds : List (Go.DataW H)} {j : Nat}
    (hsz : (Go.DataW.weightsEach P ts ds).all (· ≤ Go.reachBytes) = true) (ht : ts[j]? = some t) (hd : ds[j]? = some d) (hu : P.underlying t = some (.slice e)) (he : P.underlying e = some (.int k)) (hc : P.cellsOf e = 1) {B : Nat} (hB : P.bytesOf e = B)
    (h : Go.DataW.Trod enc P W base spare held t (.slice a len cap) d ps) : len * B ≤ 140737488351232 :=
  Go.Proofs.YtomnploadmbagaaW.PrintWords.sized_ints hsz ht hd hu he hc hB h
