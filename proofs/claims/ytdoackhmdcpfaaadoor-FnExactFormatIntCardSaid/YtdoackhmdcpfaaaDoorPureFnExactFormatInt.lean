/- The program's FormatInt answers as the reference's does, for all whole numbers of 64 bits. Conditions: the library's tables read as the program's text lays them (tied by the card). -/
import Derived.Test.YtdoackhmdcpfaaaDoorGFnExactFormatIntx1
import Derived.OpenShut
namespace Go.Proofs.YtdoackhmdcpfaaaDoor.Pure
open Go.RowKit Go.Proofs.YtdoackhmdcpfaaaDoor.GFnExactFormatInt Go.Proofs.YtdoackhmdcpfaaaDoorW.PrintWords Go.Proofs.YtdoackhmdcpfaaaDoorW.PrintLast
theorem wr {i : Int} (h0 : -9223372036854775808 ≤ i) (h : i ≤ 9223372036854775807) : wrap64 i = i := by unfold wrap64; omega
theorem wrs {i : Nat} (h : i < 9223372036854775807) : wrap64 ((i : Int) + 1) = ((i + 1 : Nat) : Int) := by unfold wrap64; omega
theorem rd_nat (l : List Int) (i : Nat) (h : i < l.length) : rd l (i : Int) = l[i] := by simp [rd, h]
theorem rd_some (l : List Int) (i : Nat) (h : i < l.length) : l[i]? = some (rd l (i : Int)) := by rw [rd_nat l i h, List.getElem?_eq_getElem h]
theorem rounds_succ {d k : Nat} (h : d < k) : ∃ m, k = m + 1 := ⟨k - 1, by omega⟩
def fmt (n : Nat) : List Int := if _h : n = 0 then [] else fmt (n / 10) ++ [48 + ((n % 10 : Nat) : Int)]
termination_by n
decreasing_by omega
theorem fmt_zero : fmt 0 = [] := by rw [fmt]; simp
theorem fmt_pos (n : Nat) (h : 0 < n) : fmt n = fmt (n / 10) ++ [48 + ((n % 10 : Nat) : Int)] := by rw [fmt]; simp; omega
theorem fmt_snoc (a d : Nat) (hd : d < 10) (h : 0 < 10 * a + d) : fmt (10 * a + d) = fmt a ++ [48 + (d : Int)] := by
  rw [fmt_pos _ h, show (10 * a + d) / 10 = a by omega, show (10 * a + d) % 10 = d by omega]
theorem fmt_head (n : Nat) : 0 < n → ∃ c t, fmt n = c :: t ∧ 49 ≤ c ∧ c ≤ 57 := by
  induction n using Nat.strongRecOn with
  | ind n ih =>
    intro h
    rw [fmt_pos n h]
    by_cases h10 : n < 10
    · rw [show n / 10 = 0 by omega, fmt_zero]
      exact ⟨_, _, rfl, by omega, by omega⟩
    · obtain ⟨c, t, e, h1, h2⟩ := ih (n / 10) (by omega) (by omega)
      rw [e]
      exact ⟨c, _, rfl, h1, h2⟩
theorem fmt_length (d : Nat) : ∀ n, n < 10 ^ d → (fmt n).length ≤ d := by
  induction d with
  | zero => intro n h; have : n = 0 := by simpa using h
            subst this; simp [fmt_zero]
  | succ d ih =>
    intro n h
    by_cases h0 : n = 0
    · subst h0; simp [fmt_zero]
    · rw [fmt_pos n (by omega), List.length_append]
      have := ih (n / 10) (by rw [Nat.pow_succ] at h; omega)
      simpa using this
theorem tmod_natAbs (x : Int) : (x.tmod 10 < 0 ∧ -(x.tmod 10) = ((x.natAbs % 10 : Nat) : Int)) ∨ (0 ≤ x.tmod 10 ∧ x.tmod 10 = ((x.natAbs % 10 : Nat) : Int)) := by
  rw [Int.tmod_eq_emod]
  split <;> omega
theorem tdiv_natAbs (x : Int) : (x.tdiv 10).natAbs = x.natAbs / 10 := by
  rw [Int.natAbs_tdiv]; rfl
theorem bytesOf_app (a b : ByteArray) : bytesOf (a ++ b) = bytesOf a ++ bytesOf b := by simp [bytesOf, ByteArray.data_append]
theorem bytesOf_one (x : Int) (h0 : 0 ≤ x) (h1 : x < 256) : bytesOf (strOfNums [x]) = [x] := by
  simp [bytesOf, strOfNums]; omega
theorem size_one (x : Int) : (strOfNums [x]).size = 1 := rfl
theorem bytesOf_inj {a b : ByteArray} (h : bytesOf a = bytesOf b) : a = b := by
  apply ByteArray.ext
  apply Array.toList_inj.1
  unfold bytesOf at h
  have := (List.map_inj_right (f := fun b : UInt8 => (b.toNat : Int)) (fun x y e => by
    have : x.toNat = y.toNat := by exact_mod_cast e
    exact UInt8.toNat_inj.1 this)).1 h
  exact this
theorem spec_FormatInt_l (x0 : Int) (d : Nat) : ∀ (x : Int) (k : Nat) (acc : ByteArray), x.natAbs < 10 ^ d → -9223372036854775808 ≤ x → x ≤ 9223372036854775807 → acc.size + d ≤ 1000 → d < k →
    ∃ r, spec_FormatInt.l0 k x0 acc x = some r ∧ bytesOf r = (if x0 < 0 then [45] else []) ++ (fmt x.natAbs ++ bytesOf acc) := by
  induction d with
  | zero =>
    intro x k acc hx hl hu ha hk
    obtain ⟨k, rfl⟩ := rounds_succ hk
    have : x = 0 := by have : x.natAbs = 0 := by simpa using hx
                       omega
    simp only [spec_FormatInt.l0]; rw [if_pos this]
    by_cases h : x0 < 0
    · rw [if_pos h, if_pos (by omega), if_pos h]
      exact ⟨_, rfl, by rw [bytesOf_app]; simp [fmt_zero, bytesOf, this]⟩
    · rw [if_neg h, if_neg h]
      exact ⟨_, rfl, by simp [fmt_zero, this]⟩
  | succ d ih =>
    intro x k acc hx hl hu ha hk
    obtain ⟨k, rfl⟩ := rounds_succ hk
    by_cases h0 : x = 0
    · simp only [spec_FormatInt.l0]; rw [if_pos h0]
      by_cases h : x0 < 0
      · rw [if_pos h, if_pos (by omega), if_pos h]
        exact ⟨_, rfl, by rw [bytesOf_app]; simp [fmt_zero, bytesOf, h0]⟩
      · rw [if_neg h, if_neg h]
        exact ⟨_, rfl, by simp [fmt_zero, h0]⟩
    · have hdv := tdiv_natAbs x
      have hm : x.natAbs % 10 < 10 := Nat.mod_lt _ (by omega)
      have key : ∀ y : Int, y = 48 + ((x.natAbs % 10 : Nat) : Int) → ∃ r, spec_FormatInt.l0 k x0 (strOfNums [y] ++ acc) (wrap64 (x.tdiv 10)) = some r ∧ bytesOf r = (if x0 < 0 then [45] else []) ++ (fmt x.natAbs ++ bytesOf acc) := by
        intro y hy
        have hw : wrap64 (x.tdiv 10) = x.tdiv 10 := wr (by omega) (by omega)
        rw [hw]
        obtain ⟨r, h1, h2⟩ := ih (x.tdiv 10) k (strOfNums [y] ++ acc) (by rw [hdv]; rw [Nat.pow_succ] at hx; omega) (by omega) (by omega) (by rw [ByteArray.size_append, size_one]; omega) (by omega)
        refine ⟨r, h1, ?_⟩
        rw [h2, hdv, bytesOf_app, bytesOf_one y (by omega) (by omega), fmt_pos x.natAbs (by omega), hy]
        simp
      simp only [spec_FormatInt.l0]; rw [if_neg h0]
      rcases tmod_natAbs x with ⟨h1, h2⟩ | ⟨h1, h2⟩
      · rw [if_pos h1, Option.bind_some, if_pos (by rw [size_one]; omega)]
        apply key
        rw [h2, wr (i := ((x.natAbs % 10 : Nat) : Int)) (by omega) (by omega), wr (by omega) (by omega)]; omega
      · rw [if_neg (by omega), Option.bind_some, if_pos (by rw [size_one]; omega)]
        apply key
        rw [h2, wr (by omega) (by omega)]; omega
def fmt0 (x : Int) : List Int := (if x < 0 then [45] else []) ++ (if x = 0 then [48] else fmt x.natAbs)
theorem spec_FormatInt_eq (x : Int) (hl : -9223372036854775808 ≤ x) (hu : x ≤ 9223372036854775807) (k : Nat) (hk : 19 < k) : ∃ r, spec_FormatInt.f k x = some r ∧ bytesOf r = fmt0 x := by
  unfold spec_FormatInt.f fmt0
  by_cases h : x = 0
  · subst h
    rw [if_pos rfl]
    exact ⟨_, rfl, by simp [bytesOf]⟩
  · rw [if_neg h]
    obtain ⟨r, h1, h2⟩ := spec_FormatInt_l x 19 x k (⟨#[]⟩ : ByteArray) (by omega) hl hu (by simp [ByteArray.size]) hk
    exact ⟨r, h1, by rw [h2, if_neg h]; simp [bytesOf]⟩
theorem dec_fmt : ∀ (u : Nat), (Lib.decDigits u).map (fun b : UInt8 => (b.toNat : Int)) = if u = 0 then [48] else fmt u := by
  intro u
  induction u using Nat.strongRecOn with
  | ind u ih =>
    have ht : ∀ m, m < 10 → ((UInt8.ofNat (48 + m)).toNat : Int) = 48 + (m : Int) := by
      intro m hm
      rw [UInt8.toNat_ofNat', Nat.mod_eq_of_lt (by omega)]; omega
    rw [Lib.decDigits]
    by_cases h : u < 10
    · rw [dif_pos h, List.map_cons, List.map_nil, ht u h]
      by_cases h0 : u = 0
      · subst h0; rfl
      · rw [if_neg h0, fmt_pos u (by omega), show u / 10 = 0 by omega, fmt_zero, show u % 10 = u by omega]; rfl
    · rw [dif_neg h, List.map_append, ih (u / 10) (by omega), if_neg (by omega), if_neg (by omega), fmt_pos u (by omega), List.map_cons, List.map_nil, ht _ (Nat.mod_lt _ (by omega))]
theorem itoa_fmt0 (x : Int) : bytesOf (⟨(Lib.itoa x).toArray⟩ : ByteArray) = fmt0 x := by
  unfold bytesOf fmt0 Lib.itoa
  by_cases h : x < 0
  · rw [if_pos h, if_pos h, if_neg (by omega)]
    have := dec_fmt x.natAbs
    rw [if_neg (by omega)] at this
    simp only [List.map_cons, this]; rfl
  · rw [if_neg h, if_neg h]
    have := dec_fmt x.toNat
    simp only [this, List.nil_append]
    by_cases h0 : x = 0
    · subst h0; rfl
    · rw [if_neg (by omega), if_neg h0, show x.toNat = x.natAbs by omega]
theorem impl_FormatInt_eq (x : Int) (hl : -9223372036854775808 ≤ x) (hu : x ≤ 9223372036854775807) : impl_FormatInt.f x = some (⟨(Lib.itoa x).toArray⟩ : ByteArray) := by
  unfold impl_FormatInt.f
  rw [if_pos hl, if_pos hu]
theorem FnExactFormatInt : laws_FnExactFormatInt.Pure := by
  intro x hx
  have hx' : -9223372036854775808 ≤ x ∧ x ≤ 9223372036854775807 := by simpa [Lit.wf, IntKind.min, IntKind.max, IntKind.signed, IntKind.bits] using hx
  obtain ⟨r, h1, h2⟩ := spec_FormatInt_eq x hx'.1 hx'.2 20 (by omega)
  refine ⟨20, ?_⟩
  unfold laws_FnExactFormatInt.f
  rw [h1, Option.bind_some, impl_FormatInt_eq x hx'.1 hx'.2, Option.bind_some]
  have := bytesOf_inj (h2.trans (itoa_fmt0 x).symm)
  rw [if_pos (by rw [this])]
end Go.Proofs.YtdoackhmdcpfaaaDoor.Pure
