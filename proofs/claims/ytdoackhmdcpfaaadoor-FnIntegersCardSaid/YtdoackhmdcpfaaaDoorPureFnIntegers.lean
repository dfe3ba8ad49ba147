/- Integers in range are parsed from their decimal form, and CeilDiv and Mod meet their defining inequalities, for all inputs of the law. Conditions: the library's tables read as the program's text lays them (tied by the card). -/
import Derived.Test.YtdoackhmdcpfaaaDoorGFnIntegersx3
import Derived.OpenShut
namespace Go.Proofs.YtdoackhmdcpfaaaDoor.Pure
open Go.RowKit Go.Proofs.YtdoackhmdcpfaaaDoor.GFnIntegers Go.Proofs.YtdoackhmdcpfaaaDoorW.PrintWords Go.Proofs.YtdoackhmdcpfaaaDoorW.PrintLast
theorem wr {i : Int} (h0 : -9223372036854775808 ≤ i) (h : i ≤ 9223372036854775807) : wrap64 i = i := by unfold wrap64; omega
theorem wrs {i : Nat} (h : i < 9223372036854775807) : wrap64 ((i : Int) + 1) = ((i + 1 : Nat) : Int) := by unfold wrap64; omega
theorem rd_nat (l : List Int) (i : Nat) (h : i < l.length) : rd l (i : Int) = l[i] := by simp [rd, h]
theorem rd_some (l : List Int) (i : Nat) (h : i < l.length) : l[i]? = some (rd l (i : Int)) := by rw [rd_nat l i h, List.getElem?_eq_getElem h]
theorem rounds_succ {d k : Nat} (h : d < k) : ∃ m, k = m + 1 := ⟨k - 1, by omega⟩
def fmt (n : Nat) : List Int := if _h : n = 0 then [] else fmt (n / 10) ++ [48 + ((n % 10 : Nat) : Int)]
termination_by n
decreasing_by omega
theorem fmt_zero : fmt 0 = [] := by rw [fmt]; simp
theorem fmt_pos (n : Nat) (h : 0 < n) : fmt n = fmt (n / 10) ++ [48 + ((n % 10 : Nat) : Int)] := by rw [fmt]; simp; omega
theorem fmt_snoc (a d : Nat) (hd : d < 10) (h : 0 < 10 * a + d) : fmt (10 * a + d) = fmt a ++ [48 + (d : Int)] := by
  rw [fmt_pos _ h, show (10 * a + d) / 10 = a by omega, show (10 * a + d) % 10 = d by omega]
theorem fmt_head (n : Nat) : 0 < n → ∃ c t, fmt n = c :: t ∧ 49 ≤ c ∧ c ≤ 57 := by
  induction n using Nat.strongRecOn with
  | ind n ih =>
    intro h
    rw [fmt_pos n h]
    by_cases h10 : n < 10
    · rw [show n / 10 = 0 by omega, fmt_zero]
      exact ⟨_, _, rfl, by omega, by omega⟩
    · obtain ⟨c, t, e, h1, h2⟩ := ih (n / 10) (by omega) (by omega)
      rw [e]
      exact ⟨c, _, rfl, h1, h2⟩
theorem fmt_length (d : Nat) : ∀ n, n < 10 ^ d → (fmt n).length ≤ d := by
  induction d with
  | zero => intro n h; have : n = 0 := by simpa using h
            subst this; simp [fmt_zero]
  | succ d ih =>
    intro n h
    by_cases h0 : n = 0
    · subst h0; simp [fmt_zero]
    · rw [fmt_pos n (by omega), List.length_append]
      have := ih (n / 10) (by rw [Nat.pow_succ] at h; omega)
      simpa using this
theorem tmod_natAbs (x : Int) : (x.tmod 10 < 0 ∧ -(x.tmod 10) = ((x.natAbs % 10 : Nat) : Int)) ∨ (0 ≤ x.tmod 10 ∧ x.tmod 10 = ((x.natAbs % 10 : Nat) : Int)) := by
  rw [Int.tmod_eq_emod]
  split <;> omega
theorem tdiv_natAbs (x : Int) : (x.tdiv 10).natAbs = x.natAbs / 10 := by
  rw [Int.natAbs_tdiv]; rfl
theorem bytesOf_app (a b : ByteArray) : bytesOf (a ++ b) = bytesOf a ++ bytesOf b := by simp [bytesOf, ByteArray.data_append]
theorem bytesOf_one (x : Int) (h0 : 0 ≤ x) (h1 : x < 256) : bytesOf (strOfNums [x]) = [x] := by
  simp [bytesOf, strOfNums]; omega
theorem size_one (x : Int) : (strOfNums [x]).size = 1 := rfl
theorem bytesOf_inj {a b : ByteArray} (h : bytesOf a = bytesOf b) : a = b := by
  apply ByteArray.ext
  apply Array.toList_inj.1
  unfold bytesOf at h
  have := (List.map_inj_right (f := fun b : UInt8 => (b.toNat : Int)) (fun x y e => by
    have : x.toNat = y.toNat := by exact_mod_cast e
    exact UInt8.toNat_inj.1 this)).1 h
  exact this
theorem spec_FormatInt_l (x0 : Int) (d : Nat) : ∀ (x : Int) (k : Nat) (acc : ByteArray), x.natAbs < 10 ^ d → -9223372036854775808 ≤ x → x ≤ 9223372036854775807 → acc.size + d ≤ 1000 → d < k →
    ∃ r, spec_FormatInt.l0 k x0 acc x = some r ∧ bytesOf r = (if x0 < 0 then [45] else []) ++ (fmt x.natAbs ++ bytesOf acc) := by
  induction d with
  | zero =>
    intro x k acc hx hl hu ha hk
    obtain ⟨k, rfl⟩ := rounds_succ hk
    have : x = 0 := by have : x.natAbs = 0 := by simpa using hx
                       omega
    simp only [spec_FormatInt.l0]; rw [if_pos this]
    by_cases h : x0 < 0
    · rw [if_pos h, if_pos (by omega), if_pos h]
      exact ⟨_, rfl, by rw [bytesOf_app]; simp [fmt_zero, bytesOf, this]⟩
    · rw [if_neg h, if_neg h]
      exact ⟨_, rfl, by simp [fmt_zero, this]⟩
  | succ d ih =>
    intro x k acc hx hl hu ha hk
    obtain ⟨k, rfl⟩ := rounds_succ hk
    by_cases h0 : x = 0
    · simp only [spec_FormatInt.l0]; rw [if_pos h0]
      by_cases h : x0 < 0
      · rw [if_pos h, if_pos (by omega), if_pos h]
        exact ⟨_, rfl, by rw [bytesOf_app]; simp [fmt_zero, bytesOf, h0]⟩
      · rw [if_neg h, if_neg h]
        exact ⟨_, rfl, by simp [fmt_zero, h0]⟩
    · have hdv := tdiv_natAbs x
      have hm : x.natAbs % 10 < 10 := Nat.mod_lt _ (by omega)
      have key : ∀ y : Int, y = 48 + ((x.natAbs % 10 : Nat) : Int) → ∃ r, spec_FormatInt.l0 k x0 (strOfNums [y] ++ acc) (wrap64 (x.tdiv 10)) = some r ∧ bytesOf r = (if x0 < 0 then [45] else []) ++ (fmt x.natAbs ++ bytesOf acc) := by
        intro y hy
        have hw : wrap64 (x.tdiv 10) = x.tdiv 10 := wr (by omega) (by omega)
        rw [hw]
        obtain ⟨r, h1, h2⟩ := ih (x.tdiv 10) k (strOfNums [y] ++ acc) (by rw [hdv]; rw [Nat.pow_succ] at hx; omega) (by omega) (by omega) (by rw [ByteArray.size_append, size_one]; omega) (by omega)
        refine ⟨r, h1, ?_⟩
        rw [h2, hdv, bytesOf_app, bytesOf_one y (by omega) (by omega), fmt_pos x.natAbs (by omega), hy]
        simp
      simp only [spec_FormatInt.l0]; rw [if_neg h0]
      rcases tmod_natAbs x with ⟨h1, h2⟩ | ⟨h1, h2⟩
      · rw [if_pos h1, Option.bind_some, if_pos (by rw [size_one]; omega)]
        apply key
        rw [h2, wr (i := ((x.natAbs % 10 : Nat) : Int)) (by omega) (by omega), wr (by omega) (by omega)]; omega
      · rw [if_neg (by omega), Option.bind_some, if_pos (by rw [size_one]; omega)]
        apply key
        rw [h2, wr (by omega) (by omega)]; omega
def fmt0 (x : Int) : List Int := (if x < 0 then [45] else []) ++ (if x = 0 then [48] else fmt x.natAbs)
theorem spec_FormatInt_eq (x : Int) (hl : -9223372036854775808 ≤ x) (hu : x ≤ 9223372036854775807) (k : Nat) (hk : 19 < k) : ∃ r, spec_FormatInt.f k x = some r ∧ bytesOf r = fmt0 x := by
  unfold spec_FormatInt.f fmt0
  by_cases h : x = 0
  · subst h
    rw [if_pos rfl]
    exact ⟨_, rfl, by simp [bytesOf]⟩
  · rw [if_neg h]
    obtain ⟨r, h1, h2⟩ := spec_FormatInt_l x 19 x k (⟨#[]⟩ : ByteArray) (by omega) hl hu (by simp [ByteArray.size]) hk
    exact ⟨r, h1, by rw [h2, if_neg h]; simp [bytesOf]⟩
theorem dec_fmt : ∀ (u : Nat), (Lib.decDigits u).map (fun b : UInt8 => (b.toNat : Int)) = if u = 0 then [48] else fmt u := by
  intro u
  induction u using Nat.strongRecOn with
  | ind u ih =>
    have ht : ∀ m, m < 10 → ((UInt8.ofNat (48 + m)).toNat : Int) = 48 + (m : Int) := by
      intro m hm
      rw [UInt8.toNat_ofNat', Nat.mod_eq_of_lt (by omega)]; omega
    rw [Lib.decDigits]
    by_cases h : u < 10
    · rw [dif_pos h, List.map_cons, List.map_nil, ht u h]
      by_cases h0 : u = 0
      · subst h0; rfl
      · rw [if_neg h0, fmt_pos u (by omega), show u / 10 = 0 by omega, fmt_zero, show u % 10 = u by omega]; rfl
    · rw [dif_neg h, List.map_append, ih (u / 10) (by omega), if_neg (by omega), if_neg (by omega), fmt_pos u (by omega), List.map_cons, List.map_nil, ht _ (Nat.mod_lt _ (by omega))]
theorem itoa_fmt0 (x : Int) : bytesOf (⟨(Lib.itoa x).toArray⟩ : ByteArray) = fmt0 x := by
  unfold bytesOf fmt0 Lib.itoa
  by_cases h : x < 0
  · rw [if_pos h, if_pos h, if_neg (by omega)]
    have := dec_fmt x.natAbs
    rw [if_neg (by omega)] at this
    simp only [List.map_cons, this]; rfl
  · rw [if_neg h, if_neg h]
    have := dec_fmt x.toNat
    simp only [this, List.nil_append]
    by_cases h0 : x = 0
    · subst h0; rfl
    · rw [if_neg (by omega), if_neg h0, show x.toNat = x.natAbs by omega]
theorem impl_FormatInt_eq (x : Int) (hl : -9223372036854775808 ≤ x) (hu : x ≤ 9223372036854775807) : impl_FormatInt.f x = some (⟨(Lib.itoa x).toArray⟩ : ByteArray) := by
  unfold impl_FormatInt.f
  rw [if_pos hl, if_pos hu]
def pl (a : Nat) : List Int → Option Nat
  | [] => some a
  | c :: t => if 48 ≤ c ∧ c ≤ 57 then pl (10 * a + (c - 48).toNat) t else none
theorem pl_fmt (R : List Int) : ∀ a n, 0 < a → pl a R = some n → 0 < n ∧ fmt n = fmt a ++ R := by
  induction R with
  | nil => intro a n h e; simp [pl] at e; subst e; simp [h]
  | cons c t ih =>
    intro a n h e
    simp only [pl] at e
    split at e
    · rename_i hc
      obtain ⟨h1, h2⟩ := ih _ n (by omega) e
      refine ⟨h1, ?_⟩
      rw [h2, fmt_snoc _ _ (by omega) (by omega)]
      simp; omega
    · cases e
theorem pl_lt (R : List Int) : ∀ a n i, a < 10 ^ i → pl a R = some n → n < 10 ^ (i + R.length) := by
  induction R with
  | nil => intro a n i h e; simp [pl] at e; subst e; simpa using h
  | cons c t ih =>
    intro a n i h e
    simp only [pl] at e
    split at e
    · have := ih _ n (i + 1) (by rw [Nat.pow_succ]; omega) e
      rw [List.length_cons, show i + (t.length + 1) = i + 1 + t.length by omega]; exact this
    · cases e
theorem pl_canon (c : Int) (R : List Int) (n : Nat) (e : pl 0 (c :: R) = some n) : fmt0 (n : Int) = c :: R ↔ (R = [] ∨ c ≠ 48) := by
  simp only [pl] at e
  split at e
  · rename_i hc
    by_cases h48 : c = 48
    · subst h48
      cases R with
      | nil => simp [pl] at e; subst e; simp [fmt0]
      | cons b t =>
        have hn : fmt0 (n : Int) ≠ 48 :: b :: t := by
          intro hh
          unfold fmt0 at hh
          rw [if_neg (by omega)] at hh
          by_cases h0 : n = 0
          · subst h0; simp at hh
          · rw [if_neg (by omega)] at hh
            obtain ⟨c', t', e1, e2, _⟩ := fmt_head n (by omega)
            simp [e1] at hh
            omega
        simp [hn]
    · obtain ⟨h1, h2⟩ := pl_fmt R _ n (by omega) e
      have : fmt0 (n : Int) = c :: R := by
        unfold fmt0
        rw [if_neg (by omega), if_neg (by omega), Int.natAbs_natCast, h2]
        have := fmt_snoc 0 (c - 48).toNat (by omega) (by omega)
        rw [this, fmt_zero]
        simp; omega
      simp [this, h48]
  · cases e
theorem bt_drop (s : ByteArray) (i : Nat) (h : i < s.size) : (bytesOf s).drop i = bt s i :: (bytesOf s).drop (i + 1) := by
  rw [← rd_bytesOf, rd_nat _ _ (by rw [bytesOf_length]; exact h)]
  exact List.drop_eq_getElem_cons _
theorem dropped_nil (s : ByteArray) (i : Nat) (h : (bytesOf s).drop i = []) : s.size ≤ i := by
  have := congrArg List.length h
  simp [bytesOf_length] at this; omega
theorem dropped_cons (s : ByteArray) (i : Nat) (c : Int) (t : List Int) (h : (bytesOf s).drop i = c :: t) : i < s.size ∧ bt s i = c ∧ (bytesOf s).drop (i + 1) = t := by
  have hl := congrArg List.length h
  simp [bytesOf_length] at hl
  have hi : i < s.size := by omega
  rw [bt_drop s i hi] at h
  exact ⟨hi, by injection h, by injection h⟩
theorem pow13 (i : Nat) (h : i ≤ 13) : 10 ^ i ≤ 10000000000000 := by
  have := Nat.pow_le_pow_right (show 10 > 0 by omega) h
  exact this
def ifin (n : Option Nat) : Int × Bool := match n with | none => (0, false) | some n => if n ≤ 1000000000000 then ((n : Int), true) else (0, false)
theorem impl_ParseInt_l (s : ByteArray) (hs : s.size ≤ 13) : ∀ (R : List Int) (k i a : Nat), (bytesOf s).drop i = R → a < 10 ^ i → i ≤ s.size → R.length < k → impl_ParseInt.l0 k s a (s.size : Int) i = some (ifin (pl a R)) := by
  intro R
  induction R with
  | nil =>
    intro k i a hR ha hi hk
    obtain ⟨k, rfl⟩ := rounds_succ hk
    have := dropped_nil s i hR
    simp only [impl_ParseInt.l0]; rw [if_neg (by omega)]
    simp only [pl, ifin]
    split
    · rw [if_neg (by omega)]
    · rw [if_pos (by omega)]
  | cons c t ih =>
    intro k i a hR ha hi hk
    obtain ⟨k, rfl⟩ := rounds_succ hk
    obtain ⟨h1, h2, h3⟩ := dropped_cons s i c t hR
    have hb := bt_range s i
    have hp := pow13 i (by omega)
    simp only [impl_ParseInt.l0]; rw [if_pos (by omega), if_pos (by omega), if_pos (by omega), h2]
    rw [h2] at hb
    simp only [pl]
    by_cases hc : 48 ≤ c ∧ c ≤ 57
    · rw [if_neg (by omega), if_neg (by omega), if_pos hc]
      rw [wr (i := 10 * (a : Int)) (by omega) (by omega), wr (i := 10 * (a : Int) + _) (by omega) (by omega), wrs (by omega)]
      have := ih k (i + 1) (10 * a + (c - 48).toNat) h3 (by rw [Nat.pow_succ]; omega) (by omega) (by simp at hk; omega)
      rw [← this]; congr 1; omega
    · rw [if_neg hc]
      by_cases h4 : c < 48
      · rw [if_pos h4]; rfl
      · rw [if_neg h4, if_pos (by omega)]; rfl
def PI (L : List Int) : Int × Bool := if L = [] ∨ 13 < L.length ∨ (1 < L.length ∧ L.head? = some 48) then (0, false) else ifin (pl 0 L)
theorem impl_ParseInt_eq (s : ByteArray) (k : Nat) (hk : 20 < k) : impl_ParseInt.f k s = some (PI (bytesOf s)) := by
  obtain ⟨k, rfl⟩ := rounds_succ hk
  have hlen := bytesOf_length s
  unfold impl_ParseInt.f PI
  by_cases h0 : s.size = 0
  · have : bytesOf s = [] := List.length_eq_zero_iff.1 (by omega)
    rw [if_pos (by omega), if_pos (.inl this)]; simp [impl_ParseInt.j0]
  · rw [if_neg (by omega)]
    have hne : bytesOf s ≠ [] := fun e => h0 (by rw [← hlen, e]; rfl)
    by_cases h13 : s.size > 13
    · rw [if_pos (by omega), if_pos (by rw [hlen]; omega)]; simp [impl_ParseInt.j0]
    · rw [if_neg (by omega)]
      have hd := bt_drop s 0 (by omega)
      have hz : bt s ((0 : Nat) : Int) = bt s 0 := rfl
      rw [List.drop_zero, hz] at hd
      have hh : (bytesOf s).head? = some (bt s 0) := by rw [hd]; rfl
      have main : impl_ParseInt.l0 k s 0 (s.size : Int) 0 = some (ifin (pl 0 (bytesOf s))) := impl_ParseInt_l s (by omega) (bytesOf s) k 0 0 rfl (by simp) (by omega) (by omega)
      by_cases h1 : s.size > 1
      · rw [if_pos (by omega), if_pos (by omega)]
        simp only [impl_ParseInt.j0]
        by_cases h48 : bt s 0 = 48
        · rw [if_pos (by simp [h48]), if_pos (.inr (.inr ⟨by omega, by rw [hh, h48]⟩))]
        · rw [if_neg (by simp [h48]), if_neg (by rw [hh]; simp [h48, hne]; omega)]
          exact main
      · rw [if_neg (by omega)]
        simp only [impl_ParseInt.j0]
        rw [if_neg (by simp), if_neg (by simp [hne]; omega)]
        exact main
theorem in_i64 {n : Int} (h : (Lit.int .i64 n).wf = true) : -9223372036854775808 ≤ n ∧ n ≤ 9223372036854775807 := bounds_i64 h
theorem in_u8 {n : Int} (h : (Lit.int .u8 n).wf = true) : 0 ≤ n ∧ n ≤ 255 := bounds_u8 h
theorem tmod_cases (a b : Int) (hb : 0 < b) : (0 ≤ a.tmod b ∧ a.tmod b = a % b) ∨ (a.tmod b < 0 ∧ a.tmod b + b = a % b) := by
  have h1 := Int.emod_nonneg a (show b ≠ 0 by omega)
  have h2 := Int.emod_lt_of_pos a hb
  rw [Int.tmod_eq_emod]
  split
  · left; omega
  · rename_i hn
    have : a % b ≠ 0 := fun e => hn (.inr (Int.dvd_of_emod_eq_zero e))
    right; omega
theorem tmod_nn (a b : Int) (ha : 0 ≤ a) : a.tmod b = a % b := by rw [Int.tmod_eq_emod, if_pos (.inl ha)]; omega
theorem and255 (y : Int) : 0 ≤ Go.bits .and .i64 y 255 ∧ Go.bits .and .i64 y 255 ≤ 255 := by
  have h : ((BitVec.ofInt 64 y &&& BitVec.ofInt 64 255).toNat) ≤ 255 := by
    rw [BitVec.toNat_and]
    exact Nat.and_le_right
  have e : Go.bits .and .i64 y 255 = IntKind.i64.wrap ((BitVec.ofInt 64 y &&& BitVec.ofInt 64 255).toNat : Int) := rfl
  rw [e]
  generalize (BitVec.ofInt 64 y &&& BitVec.ofInt 64 255).toNat = m at h
  rw [IntKind.wrap_i64]; omega
theorem l1New_l (b : List Int) (_hb : b.length ≤ 1048576) : ∀ (d k i : Nat) (h : Int), i + d = b.length → d < k → ∃ h', spec_l1New.l0 k b h i = some (b, 0, h') := by
  intro d
  induction d with
  | zero =>
    intro k i h hd hk
    obtain ⟨k, rfl⟩ := rounds_succ hk
    simp only [spec_l1New.l0]; rw [if_neg (by omega)]
    exact ⟨h, rfl⟩
  | succ d ih =>
    intro k i h hd hk
    obtain ⟨k, rfl⟩ := rounds_succ hk
    simp only [spec_l1New.l0]; rw [if_pos (by omega)]
    by_cases h4 : (i : Int) < 4000
    · rw [if_pos h4, if_pos (by omega), wrs (by omega)]
      exact ih k (i + 1) _ (by omega) (by omega)
    · rw [if_neg h4]
      exact ⟨h, rfl⟩
theorem l1New_eq (b : List Int) (hb : b.length ≤ 1048576) (k : Nat) (hk : b.length < k) : ∃ h', spec_l1New.f k b = some (b, 0, h') :=
  l1New_l b hb b.length k 0 _ (by omega) hk
def Cur (b : List Int) (i : Int) : Prop := 0 ≤ i ∧ i ≤ (b.length : Int)
theorem l1Byte_eq (b : List Int) (hb : b.length ≤ 1048576) (i h : Int) (hc : Cur b i) : ∃ x i' h', spec_l1Byte.f b i h = some (x, i', h') ∧ 0 ≤ x ∧ x ≤ 255 ∧ Cur b i' := by
  unfold Cur at *
  unfold spec_l1Byte.f
  by_cases h1 : i < (b.length : Int)
  · rw [if_pos h1, if_pos hc.1]
    exact ⟨_, _, _, rfl, (and255 _).1, (and255 _).2, by rw [wr (by omega) (by omega)]; omega⟩
  · rw [if_neg h1]
    exact ⟨_, _, _, rfl, (and255 _).1, (and255 _).2, hc⟩
theorem l1Below_eq (b : List Int) (hb : b.length ≤ 1048576) (i h : Int) (hc : Cur b i) (n : Int) : ∃ x i' h', spec_l1Below.f b i h n = some (x, i', h') ∧ 0 ≤ x ∧ (x < n ∨ (n ≤ 0 ∧ x = 0)) ∧ Cur b i' := by
  unfold spec_l1Below.f
  by_cases h0 : n ≤ 0
  · rw [if_pos h0]; exact ⟨0, i, h, rfl, by omega, .inr ⟨h0, rfl⟩, hc⟩
  · rw [if_neg h0]
    by_cases h1 : n ≤ 256
    · obtain ⟨x, i1, k1, e, g1, g2, g3⟩ := l1Byte_eq b hb i h hc
      rw [if_pos h1, e, Option.bind_some, if_neg (by omega)]
      simp only []
      rw [tmod_nn _ _ g1]
      exact ⟨_, i1, k1, rfl, Int.emod_nonneg _ (by omega), .inl (Int.emod_lt_of_pos _ (by omega)), g3⟩
    · obtain ⟨x, i1, k1, e, g1, g2, g3⟩ := l1Byte_eq b hb i h hc
      obtain ⟨y, i2, k2, e2, p1, p2, p3⟩ := l1Byte_eq b hb i1 k1 g3
      obtain ⟨z, i3, k3, e3, q1, q2, q3⟩ := l1Byte_eq b hb i2 k2 p3
      rw [if_neg h1, e, Option.bind_some]
      simp only []
      rw [e2, Option.bind_some]
      simp only []
      rw [e3, Option.bind_some, if_neg (by omega)]
      simp only []
      rw [wr (i := x * 65536) (by omega) (by omega), wr (i := y * 256) (by omega) (by omega), wr (i := x * 65536 + _) (by omega) (by omega), wr (by omega) (by omega), tmod_nn _ _ (by omega)]
      exact ⟨_, i3, k3, rfl, Int.emod_nonneg _ (by omega), .inl (Int.emod_lt_of_pos _ (by omega)), q3⟩
theorem l1Int_eq (b : List Int) (hb : b.length ≤ 1048576) (c h : Int) (hc : Cur b c) (l : List Int) (h0 : 0 < l.length) : ∃ x c' h', spec_l1Int.f b c h l = some (x, c', h') ∧ x ∈ l ∧ Cur b c' := by
  unfold spec_l1Int.f
  obtain ⟨x, i1, k1, e, g1, g2, g3⟩ := l1Below_eq b hb c h hc (l.length : Int)
  rw [e, Option.bind_some]
  simp only []
  rw [if_pos g1, if_pos (by omega)]
  refine ⟨_, i1, k1, rfl, ?_, g3⟩
  have := rd_nat l x.toNat (by omega)
  rw [show ((x.toNat : Nat) : Int) = x by omega] at this
  rw [this]; exact List.getElem_mem _
theorem l1Num_eq (b : List Int) (hb : b.length ≤ 1048576) (c h : Int) (hc : Cur b c) : ∃ x c' h', spec_l1Num.f b c h = some (x, c', h') ∧ 0 ≤ x ∧ x ≤ 1000000000000 ∧ Cur b c' := by
  unfold spec_l1Num.f
  obtain ⟨x, i1, k1, e, g1, g2, g3⟩ := l1Below_eq b hb c h hc 4
  rw [e, Option.bind_some]
  simp only []
  by_cases h0 : x = 0
  · rw [if_pos h0]
    obtain ⟨y, i2, k2, e2, p1, p2, p3⟩ := l1Below_eq b hb i1 k1 g3 2000
    rw [e2, Option.bind_some]
    exact ⟨y, i2, k2, rfl, p1, by omega, p3⟩
  · rw [if_neg h0]
    by_cases h1 : x = 1
    · rw [if_pos h1]
      obtain ⟨y, i2, k2, e2, p1, p3⟩ := l1Int_eq b hb i1 k1 g3 [0, 1, 127, 128, 2147483646, 2147483647, 1000000000000] (by decide)
      rw [e2, Option.bind_some]
      refine ⟨y, i2, k2, rfl, ?_, ?_, p3⟩
      · simp at p1; omega
      · simp at p1; omega
    · rw [if_neg h1]
      by_cases h2 : x = 2
      · rw [if_pos h2]
        obtain ⟨y, i2, k2, e2, p1, p2, p3⟩ := l1Below_eq b hb i1 k1 g3 1000000
        rw [e2, Option.bind_some]
        simp only []
        obtain ⟨z, i3, k3, e3, q1, q2, q3⟩ := l1Below_eq b hb i2 k2 p3 1000000
        rw [e3, Option.bind_some]
        have m0 := Int.mul_nonneg p1 q1
        have m1 : y * z ≤ 1000000 * 1000000 := Int.mul_le_mul (by omega) (by omega) q1 (by omega)
        simp only []
        rw [wr (by omega) (by omega)]
        exact ⟨_, i3, k3, rfl, m0, by omega, q3⟩
      · rw [if_neg h2]
        obtain ⟨y, i2, k2, e2, p1, p2, p3⟩ := l1Below_eq b hb i1 k1 g3 20
        rw [e2, Option.bind_some]
        exact ⟨y, i2, k2, rfl, p1, by omega, p3⟩
theorem l1Once_eq (b : List Int) (hb : b.length ≤ 1048576) (c h : Int) (hc : Cur b c) (n : Int) : ∃ (x : Bool) (c' h' : Int), spec_l1Once.f b c h n = some (x, c', h') ∧ Cur b c' := by
  unfold spec_l1Once.f
  obtain ⟨x, i1, k1, e, g1, g2, g3⟩ := l1Below_eq b hb c h hc n
  rw [e, Option.bind_some]
  exact ⟨_, i1, k1, rfl, g3⟩
def In64 (x : Int) : Prop := -9223372036854775808 ≤ x ∧ x ≤ 9223372036854775807
theorem l1Odd_eq (b : List Int) (hb : b.length ≤ 1048576) (c h : Int) (hc : Cur b c) : ∃ x c' h', spec_l1Odd.f b c h = some (x, c', h') ∧ In64 x ∧ Cur b c' := by
  unfold spec_l1Odd.f
  obtain ⟨y, i2, k2, e2, p1, p3⟩ := l1Int_eq b hb c h hc [(-1), 0, 1, 2, 255, 256, 65535, 2147483647, 2147483648, 4294967295, 4294967296, (-2147483648), 9223372036854775807, (-9223372036854775808)] (by decide)
  rw [e2, Option.bind_some]
  refine ⟨y, i2, k2, rfl, ?_, p3⟩
  unfold In64; simp at p1; omega
theorem l1Raw_eq (b : List Int) (hb : b.length ≤ 1048576) (c h : Int) (hc : Cur b c) : ∃ x c' h', spec_l1Raw.f b c h = some (x, c', h') ∧ In64 x ∧ Cur b c' := by
  unfold spec_l1Raw.f
  obtain ⟨x, i1, k1, e, g3⟩ := l1Once_eq b hb c h hc 2
  rw [e, Option.bind_some]
  simp only []
  cases x with
  | true =>
    rw [if_pos rfl]
    obtain ⟨y, i2, k2, e2, p1, p3⟩ := l1Odd_eq b hb i1 k1 g3
    rw [e2, Option.bind_some]
    exact ⟨y, i2, k2, rfl, p1, p3⟩
  | false =>
    rw [if_neg (by simp)]
    obtain ⟨y, i2, k2, e2, p1, p3⟩ := l1Int_eq b hb i1 k1 g3 [(-1), 1000000000000, 1000000000001] (by decide)
    rw [e2, Option.bind_some]
    refine ⟨y, i2, k2, rfl, ?_, p3⟩
    unfold In64; simp at p1; omega
theorem l1One_eq (b : List Int) (hb : b.length ≤ 1048576) (c h : Int) (hc : Cur b c) : ∃ x c' h', spec_l1One.f b c h = some (x, c', h') ∧ In64 x ∧ Cur b c' := by
  unfold spec_l1One.f
  obtain ⟨x, i1, k1, e, g3⟩ := l1Once_eq b hb c h hc 6
  rw [e, Option.bind_some]
  simp only []
  cases x with
  | true =>
    rw [if_pos rfl]
    obtain ⟨y, i2, k2, e2, p1, p3⟩ := l1Raw_eq b hb i1 k1 g3
    rw [e2, Option.bind_some]
    exact ⟨y, i2, k2, rfl, p1, p3⟩
  | false =>
    rw [if_neg (by simp)]
    obtain ⟨y, i2, k2, e2, p0, p1, p3⟩ := l1Num_eq b hb i1 k1 g3
    rw [e2, Option.bind_some]
    exact ⟨y, i2, k2, rfl, by unfold In64; omega, p3⟩
def pmod (a b : Int) : Int := if 1 ≤ b ∧ b ≤ 1000000000000 then a % b else 0
theorem impl_InRange_eq (a b c : Int) : impl_InRange.f a b c = some (decide (b ≤ a ∧ a ≤ c)) := by
  unfold impl_InRange.f; by_cases h : b ≤ a <;> simp [h]
theorem impl_Mod_eq (a b : Int) : impl_Mod.f a b = some (pmod a b) := by
  unfold impl_Mod.f pmod
  rw [impl_InRange_eq]
  by_cases h : 1 ≤ b ∧ b ≤ 1000000000000
  · have h1 := Int.emod_nonneg a (show b ≠ 0 by omega)
    have h2 := Int.emod_lt_of_pos a (show 0 < b by omega)
    simp only [h, and_self, decide_true, Option.bind_some, if_true]
    rw [if_neg (by omega)]
    rcases tmod_cases a b (by omega) with ⟨h3, h4⟩ | ⟨h3, h4⟩
    · rw [if_neg (by omega), h4]
    · rw [if_pos h3, h4, wr (by omega) (by omega)]
  · simp [h]
theorem pl_snoc (d : Int) : ∀ (L : List Int) (a : Nat), pl a (L ++ [d]) = (pl a L).bind fun b => if 48 ≤ d ∧ d ≤ 57 then some (10 * b + (d - 48).toNat) else none := by
  intro L
  induction L with
  | nil => intro a; simp [pl]
  | cons c t ih =>
    intro a
    simp only [List.cons_append, pl]
    split
    · exact ih _
    · rfl
theorem pl_fmt_self (n : Nat) : 0 < n → pl 0 (fmt n) = some n := by
  induction n using Nat.strongRecOn with
  | ind n ih =>
    intro h
    rw [fmt_pos n h, pl_snoc]
    have hm : n % 10 < 10 := Nat.mod_lt _ (by omega)
    have e : pl 0 (fmt (n / 10)) = some (n / 10) := by
      by_cases h0 : n / 10 = 0
      · rw [h0, fmt_zero]; rfl
      · exact ih (n / 10) (by omega) (by omega)
    rw [e, Option.bind_some, if_pos (by omega)]
    congr 1
    omega
theorem PI_fmt0 (m : Int) (hl : -9223372036854775808 ≤ m) (hu : m ≤ 9223372036854775807) : PI (fmt0 m) = if 0 ≤ m ∧ m ≤ 1000000000000 then (m, true) else (0, false) := by
  unfold fmt0
  by_cases hn : m < 0
  · rw [if_pos hn, if_neg (by omega), if_neg (by omega)]
    unfold PI
    split
    · rfl
    · simp [pl, ifin]
  · rw [if_neg hn, List.nil_append]
    by_cases h0 : m = 0
    · subst h0; rfl
    · rw [if_neg h0]
      obtain ⟨c, t, e, h1, h2⟩ := fmt_head m.natAbs (by omega)
      have hp := pl_fmt_self m.natAbs (by omega)
      have hlen := fmt_length 13 m.natAbs
      rw [e] at hp hlen ⊢
      unfold PI
      by_cases h13 : 13 < (c :: t).length
      · rw [if_pos (.inr (.inl h13)), if_neg (by omega)]
      · rw [if_neg (by
          intro hh
          rcases hh with hh | hh | ⟨_, hh⟩
          · cases hh
          · exact h13 hh
          · injection hh with hh; omega), hp]
        unfold ifin
        by_cases hm : m ≤ 1000000000000
        · rw [if_pos (⟨by omega, hm⟩)]
          show (if m.natAbs ≤ 1000000000000 then ((m.natAbs : Int), true) else (0, false)) = (m, true)
          rw [if_pos (by omega), show ((m.natAbs : Nat) : Int) = m by omega]
        · rw [if_neg (by omega)]
          show (if m.natAbs ≤ 1000000000000 then ((m.natAbs : Int), true) else (0, false)) = (0, false)
          rw [if_neg (by omega)]
theorem PI_back (L : List Int) (n : Int) (h : PI L = (n, true)) : fmt0 n = L ∧ 0 ≤ n ∧ n ≤ 1000000000000 := by
  unfold PI at h
  split at h
  · cases h
  · rename_i hc
    cases L with
    | nil => simp at hc
    | cons c R =>
      cases hp : pl 0 (c :: R) with
      | none => rw [hp] at h; cases h
      | some m =>
        rw [hp] at h
        have h' : (if m ≤ 1000000000000 then ((m : Int), true) else (0, false)) = (n, true) := h
        split at h'
        · injection h' with h1 _
          subst h1
          refine ⟨(pl_canon c R m hp).2 ?_, by omega, by omega⟩
          cases R with
          | nil => exact .inl rfl
          | cons d t => exact .inr (fun e => hc (.inr (.inr ⟨by simp, by simp [e]⟩)))
        · cases h'
theorem l1Str_eq (b : List Int) (hb : b.length ≤ 1048576) (c h : Int) (hc : Cur b c) (l : List ByteArray) (h0 : 0 < l.length) : ∃ x c' h', spec_l1Str.f b c h l = some (x, c', h') := by
  unfold spec_l1Str.f
  obtain ⟨x, i1, k1, e1, g1, g2, g3⟩ := l1Below_eq b hb c h hc (l.length : Int)
  rw [e1, Option.bind_some]; simp only []
  rw [if_pos g1, if_pos (by omega)]
  exact ⟨_, _, _, rfl⟩
theorem dPI (b : List Int) (hb : b.length ≤ 1048576) (k : Nat) (hk : b.length + 40 < k) : ∃ s, spec_DrawParseInt.f k b = some s := by
  unfold spec_DrawParseInt.f
  obtain ⟨h0, e0⟩ := l1New_eq b hb k (by omega)
  have c0 : Cur b 0 := by unfold Cur; omega
  rw [e0, Option.bind_some]; simp only []
  obtain ⟨x, i1, k1, e1, g3⟩ := l1Once_eq b hb 0 h0 c0 2
  rw [e1, Option.bind_some]; simp only []
  cases x with
  | true =>
    rw [if_pos rfl]
    obtain ⟨s, i2, k2, e2⟩ := l1Str_eq b hb i1 k1 g3 [(⟨#[]⟩ : ByteArray), (⟨#[48]⟩ : ByteArray), (⟨#[48, 48]⟩ : ByteArray), (⟨#[45, 49]⟩ : ByteArray), (⟨#[48, 49]⟩ : ByteArray), (⟨#[55]⟩ : ByteArray), (⟨#[49, 48, 48, 48, 48, 48, 48, 48, 48, 48, 48, 48, 48]⟩ : ByteArray), (⟨#[49, 48, 48, 48, 48, 48, 48, 48, 48, 48, 48, 48, 49]⟩ : ByteArray), (⟨#[57, 57, 57, 57, 57, 57, 57, 57, 57, 57, 57, 57, 57, 57]⟩ : ByteArray), (⟨#[49, 120]⟩ : ByteArray), (⟨#[32, 49]⟩ : ByteArray)] (by simp)
    rw [e2, Option.bind_some]
    exact ⟨_, rfl⟩
  | false =>
    rw [if_neg (by simp)]
    obtain ⟨n, i2, k2, e2, p1, p2, p3⟩ := l1Num_eq b hb i1 k1 g3
    rw [e2, Option.bind_some]; simp only []
    obtain ⟨r, h1, h2⟩ := spec_FormatInt_eq n (by omega) (by omega) k (by omega)
    rw [h1, Option.bind_some]
    exact ⟨_, rfl⟩
theorem dFI (b : List Int) (hb : b.length ≤ 1048576) (k : Nat) (hk : b.length + 40 < k) : ∃ m, spec_DrawFormatInt.f k b = some m ∧ In64 m := by
  unfold spec_DrawFormatInt.f
  obtain ⟨h0, e0⟩ := l1New_eq b hb k (by omega)
  have c0 : Cur b 0 := by unfold Cur; omega
  rw [e0, Option.bind_some]; simp only []
  obtain ⟨n, i1, k1, e1, q1, q3⟩ := l1One_eq b hb 0 h0 c0
  rw [e1, Option.bind_some]
  exact ⟨n, rfl, q1⟩
theorem dCD (b : List Int) (hb : b.length ≤ 1048576) (k : Nat) (hk : b.length + 40 < k) : ∃ x y, spec_DrawCeilDiv.f k b = some (x, y) ∧ In64 x ∧ In64 y := by
  unfold spec_DrawCeilDiv.f
  obtain ⟨h0, e0⟩ := l1New_eq b hb k (by omega)
  have c0 : Cur b 0 := by unfold Cur; omega
  rw [e0, Option.bind_some]; simp only []
  obtain ⟨n, i1, k1, e1, q1, q3⟩ := l1One_eq b hb 0 h0 c0
  rw [e1, Option.bind_some]; simp only []
  obtain ⟨m, i2, k2, e2, r1, r3⟩ := l1One_eq b hb i1 k1 q3
  rw [e2, Option.bind_some]
  exact ⟨n, m, rfl, q1, r1⟩
def cdiv (a b : Int) : Int := if 0 ≤ a ∧ a ≤ 1000000000000 ∧ 1 ≤ b ∧ b ≤ 1000000000000 then (a + b - 1) / b else 0
theorem cdiv_ok (a b : Int) (hb : 1 ≤ b) : (a + b - 1) / b * b ≤ a + b - 1 ∧ a ≤ (a + b - 1) / b * b := by
  have h1 := Int.ediv_mul_le (a + b - 1) (show b ≠ 0 by omega)
  have h2 := Int.lt_ediv_add_one_mul_self (a + b - 1) (show 0 < b by omega)
  rw [Int.add_mul, Int.one_mul] at h2
  exact ⟨h1, by omega⟩
theorem impl_CeilDiv_eq (a b : Int) : impl_CeilDiv.f a b = some (cdiv a b) := by
  unfold impl_CeilDiv.f cdiv
  simp only [impl_InRange_eq, Option.bind_some]
  by_cases h1 : 0 ≤ a ∧ a ≤ 1000000000000
  · by_cases h2 : 1 ≤ b ∧ b ≤ 1000000000000
    · simp only [h1, h2, and_self, decide_true, if_true]
      rw [if_neg (by omega), wr (i := a + b) (by omega) (by omega), wr (i := a + b - 1) (by omega) (by omega), Int.tdiv_eq_ediv_of_nonneg (by omega)]
      have := cdiv_ok a b h2.1
      have h3 : 0 ≤ (a + b - 1) / b := Int.ediv_nonneg (by omega) (by omega)
      have h4 : (a + b - 1) / b ≤ a + b - 1 := Int.ediv_le_self _ (by omega)
      rw [wr (by omega) (by omega)]
    · rw [if_pos (by simp [h1]), if_neg (by simp; omega), if_neg (by omega)]
  · rw [if_neg (by simp; omega), if_neg (by omega)]
theorem last_ok (a b : Int) (ha : In64 a) (hb : In64 b) (k : Nat) : laws_FnIntegers.j0 (k + 3) a b (cdiv a b) (pmod a b) false = some true := by
  unfold In64 at ha hb
  simp only [laws_FnIntegers.j0]
  rw [if_neg (by simp)]
  by_cases h : 1 ≤ b ∧ b ≤ 1000000000000
  · rw [if_neg (by omega), show decide (b > 1000000000000) = false by simp; omega]
    simp only [laws_FnIntegers.j1]
    have hp : pmod a b = a % b := by unfold pmod; rw [if_pos h]
    have h1 := Int.emod_nonneg a (show b ≠ 0 by omega)
    have h2 := Int.emod_lt_of_pos a (show 0 < b by omega)
    rw [if_neg (by simp), hp, if_neg (by omega), if_neg (by omega), if_neg (by omega)]
    have hz : (Int.tmod (wrap64 (Int.tmod a b - a % b)) b != 0) = false := by
      rcases tmod_cases a b (by omega) with ⟨h3, h4⟩ | ⟨h3, h4⟩
      · rw [h4, Int.sub_self, wr (by omega) (by omega)]; simp
      · rw [show Int.tmod a b - a % b = -b by omega, wr (by omega) (by omega)]; simp
    rw [hz]
    simp only [laws_FnIntegers.j2]
    rw [if_neg (by simp)]
    by_cases h5 : a < 0
    · rw [if_pos h5]; unfold cdiv; rw [if_neg (by omega)]; rfl
    · rw [if_neg h5]
      by_cases h6 : a > 1000000000000
      · rw [if_pos h6]; unfold cdiv; rw [if_neg (by omega)]; rfl
      · rw [if_neg h6]
        have hcd : cdiv a b = (a + b - 1) / b := by unfold cdiv; rw [if_pos (by omega)]
        rw [hcd]
        obtain ⟨h7, h8⟩ := cdiv_ok a b h.1
        generalize (a + b - 1) / b * b = X at h7 h8 ⊢
        rw [wr (i := X) (by omega) (by omega), if_pos (by omega), wr (i := X - a) (by omega) (by omega), decide_eq_true (by omega)]
  · have hc : cdiv a b = 0 := by unfold cdiv; rw [if_neg (by omega)]
    have hm : pmod a b = 0 := by unfold pmod; rw [if_neg h]
    rw [hc, hm]
    by_cases hb1 : b < 1
    · rw [if_pos hb1]; simp [laws_FnIntegers.j1]
    · rw [if_neg hb1, show decide (b > 1000000000000) = true by simp; omega]; simp [laws_FnIntegers.j1]
theorem FnIntegers : laws_FnIntegers.Pure := by
  intro b _ _ _
  refine ⟨2097152 + 3, ?_⟩
  unfold laws_FnIntegers.f laws_big.f
  rw [Option.bind_some]
  by_cases hb : b.length ≤ 1048576
  · rw [if_neg (by simp; omega)]
    obtain ⟨s, e1⟩ := dPI b hb (2097152 + 3) (by omega)
    obtain ⟨m, e2, hm⟩ := dFI b hb (2097152 + 3) (by omega)
    obtain ⟨x, y, e3, hx, hy⟩ := dCD b hb (2097152 + 3) (by omega)
    have hl := last_ok x y hx hy 2097152
    unfold In64 at hm
    have e4 := impl_FormatInt_eq m hm.1 hm.2
    have e5 := impl_ParseInt_eq (⟨(Lib.itoa m).toArray⟩ : ByteArray) (2097152 + 3) (by omega)
    rw [itoa_fmt0, PI_fmt0 m hm.1 hm.2] at e5
    rw [e1, Option.bind_some, impl_ParseInt_eq s _ (by omega), Option.bind_some, e2, Option.bind_some, e4, Option.bind_some, e5, Option.bind_some, e3, Option.bind_some]
    simp only []
    rw [impl_CeilDiv_eq, Option.bind_some, impl_Mod_eq, Option.bind_some]
    have fin : (if m ≥ 0 then (if ((if 0 ≤ m ∧ m ≤ 1000000000000 then (m, true) else ((0 : Int), false)).2 != (decide (m ≤ 1000000000000))) = true then (laws_FnIntegers.j0 (2097152 + 3) x y (cdiv x y) (pmod x y) true) else (if (if 0 ≤ m ∧ m ≤ 1000000000000 then (m, true) else ((0 : Int), false)).2 = true then (laws_FnIntegers.j0 (2097152 + 3) x y (cdiv x y) (pmod x y) ((if 0 ≤ m ∧ m ≤ 1000000000000 then (m, true) else ((0 : Int), false)).1 != m)) else (laws_FnIntegers.j0 (2097152 + 3) x y (cdiv x y) (pmod x y) false))) else (if ((if 0 ≤ m ∧ m ≤ 1000000000000 then (m, true) else ((0 : Int), false)).2 != false) = true then (laws_FnIntegers.j0 (2097152 + 3) x y (cdiv x y) (pmod x y) true) else (if (if 0 ≤ m ∧ m ≤ 1000000000000 then (m, true) else ((0 : Int), false)).2 = true then (laws_FnIntegers.j0 (2097152 + 3) x y (cdiv x y) (pmod x y) ((if 0 ≤ m ∧ m ≤ 1000000000000 then (m, true) else ((0 : Int), false)).1 != m)) else (laws_FnIntegers.j0 (2097152 + 3) x y (cdiv x y) (pmod x y) false)))) = some true := by
      by_cases h0 : m ≥ 0
      · by_cases h1 : m ≤ 1000000000000
        · have hP : (if 0 ≤ m ∧ m ≤ 1000000000000 then (m, true) else ((0 : Int), false)) = (m, true) := if_pos ⟨h0, h1⟩
          rw [hP, if_pos h0, decide_eq_true h1]
          simp only [bne_self_eq_false, Bool.false_eq_true, if_false, if_true]
          exact hl
        · have hP : (if 0 ≤ m ∧ m ≤ 1000000000000 then (m, true) else ((0 : Int), false)) = (0, false) := if_neg (fun h => h1 h.2)
          rw [hP, if_pos h0, decide_eq_false h1]
          simp only [bne_self_eq_false, Bool.false_eq_true, if_false]
          exact hl
      · have hP : (if 0 ≤ m ∧ m ≤ 1000000000000 then (m, true) else ((0 : Int), false)) = (0, false) := if_neg (fun h => h0 h.1)
        rw [hP, if_neg h0]
        simp only [bne_self_eq_false, Bool.false_eq_true, if_false]
        exact hl
    cases hp : PI (bytesOf s) with
    | mk n ok =>
      simp only []
      cases ok with
      | false => rw [if_neg (by simp)]; exact fin
      | true =>
        obtain ⟨h1, h2, h3⟩ := PI_back _ n hp
        rw [if_pos rfl, impl_FormatInt_eq n (by omega) (by omega), Option.bind_some]
        have := bytesOf_inj ((itoa_fmt0 n).trans h1)
        rw [if_pos (by rw [this])]
        exact fin
  · rw [if_pos (by simp; omega)]
end Go.Proofs.YtdoackhmdcpfaaaDoor.Pure
