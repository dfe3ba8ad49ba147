/- The program's BytesToInts answers as the reference's does, for all byte strings, leaves its argument alone and hands back memory of its own. Conditions: none. -/
import Derived.Test.YtomnploadmbagaaPFnExactBytesToIntsx2
import Derived.OpenShut
import Derived.Test.YtomnploadmbagaaWSized
namespace Go.Proofs.Ytomnploadmbagaa.Pure
open Go.RowKit Go.Proofs.Ytomnploadmbagaa.PFnExactBytesToInts Go.Proofs.YtomnploadmbagaaW.PrintWords Go.Proofs.YtomnploadmbagaaW.PrintLast
theorem wr {i : Int} (h0 : -9223372036854775808 ≤ i) (h : i ≤ 9223372036854775807) : wrap64 i = i := by unfold wrap64; omega
theorem wrs {i : Nat} (h : i < 9223372036854775807) : wrap64 ((i : Int) + 1) = ((i + 1 : Nat) : Int) := by unfold wrap64; omega
theorem rd_nat (l : List Int) (i : Nat) (h : i < l.length) : rd l (i : Int) = l[i] := by simp [rd, h]
theorem rd_some (l : List Int) (i : Nat) (h : i < l.length) : l[i]? = some (rd l (i : Int)) := by rw [rd_nat l i h, List.getElem?_eq_getElem h]
theorem rounds_succ {d k : Nat} (h : d < k) : ∃ m, k = m + 1 := ⟨k - 1, by omega⟩
theorem laws_toByteS_l (l : List Int) (hl : l.length ≤ 1048576) : ∀ (d k i : Nat) (xs : List Int), xs.length = l.length → (∀ j, j < i → xs[j]? = l[j]?) → i + d = l.length → d < k → laws_toByteS.l0 k l xs i = some l := by
  intro d
  induction d with
  | zero =>
    intro k i xs hx hp hd hk
    obtain ⟨k, rfl⟩ := rounds_succ hk
    simp only [laws_toByteS.l0]; rw [if_neg (by omega)]
    congr 1
    refine List.ext_getElem? fun j => ?_
    by_cases hj : j < i
    · exact hp j hj
    · rw [List.getElem?_eq_none (by omega), List.getElem?_eq_none (by omega)]
  | succ d ih =>
    intro k i xs hx hp hd hk
    obtain ⟨k, rfl⟩ := rounds_succ hk
    simp only [laws_toByteS.l0]; rw [if_pos (by omega), if_pos (by omega), if_pos (by omega), wrs (by omega), Int.toNat_natCast]
    refine ih k (i + 1) _ (by simp [hx]) ?_ (by omega) (by omega)
    intro j hj
    rw [List.getElem?_set]
    by_cases e : i = j
    · subst e; rw [if_pos rfl, if_pos (by omega), rd_some l i (by omega)]
    · rw [if_neg e]; exact hp j (by omega)
theorem laws_toByteS_eq (l : List Int) (hl : l.length ≤ 1048576) (k : Nat) (hk : l.length < k) : laws_toByteS.f k l = some l := by
  unfold laws_toByteS.f
  rw [if_pos (by omega), if_pos (by omega)]
  exact laws_toByteS_l l hl l.length k 0 _ (by simp) (fun j hj => by omega) (by omega) hk
theorem laws_eqByteS_l (a b : List Int) (hl : a.length ≤ 1099511627776) (hab : a.length = b.length) : ∀ (d k i : Nat), (∀ j, j < i → a[j]? = b[j]?) → i + d = a.length → d < k → laws_eqByteS.l0 k a b i = some (decide (a = b)) := by
  intro d
  induction d with
  | zero =>
    intro k i hp hd hk
    obtain ⟨k, rfl⟩ := rounds_succ hk
    simp only [laws_eqByteS.l0]; rw [if_neg (by omega)]
    have : a = b := by
      refine List.ext_getElem? fun j => ?_
      by_cases hj : j < i
      · exact hp j hj
      · rw [List.getElem?_eq_none (by omega), List.getElem?_eq_none (by omega)]
    simp [this]
  | succ d ih =>
    intro k i hp hd hk
    obtain ⟨k, rfl⟩ := rounds_succ hk
    simp only [laws_eqByteS.l0]; rw [if_pos (by omega), if_pos (by omega), if_pos (by omega)]
    by_cases e : rd a i = rd b i
    · rw [if_pos e, wrs (by omega)]
      refine ih k (i + 1) ?_ (by omega) (by omega)
      intro j hj
      by_cases e' : j = i
      · subst e'; rw [rd_some a j (by omega), rd_some b j (by omega), e]
      · exact hp j (by omega)
    · rw [if_neg e]
      have : ¬ a = b := fun h => e (by rw [h])
      simp [this]
theorem laws_eqByteS_eq (a b : List Int) (hl : a.length ≤ 1099511627776) (k : Nat) (hk : a.length < k) : laws_eqByteS.f k a b = some (decide (a = b)) := by
  unfold laws_eqByteS.f
  by_cases h : a.length = b.length
  · rw [if_pos (by omega)]
    exact laws_eqByteS_l a b hl h a.length k 0 (fun j hj => by omega) (by omega) hk
  · rw [if_neg (by omega)]
    have : ¬ a = b := fun e => h (by rw [e])
    simp [this]
theorem laws_eqIntS_l (a b : List Int) (hl : a.length ≤ 1099511627776) (hab : a.length = b.length) : ∀ (d k i : Nat), (∀ j, j < i → a[j]? = b[j]?) → i + d = a.length → d < k → laws_eqIntS.l0 k a b i = some (decide (a = b)) := by
  intro d
  induction d with
  | zero =>
    intro k i hp hd hk
    obtain ⟨k, rfl⟩ := rounds_succ hk
    simp only [laws_eqIntS.l0]; rw [if_neg (by omega)]
    have : a = b := by
      refine List.ext_getElem? fun j => ?_
      by_cases hj : j < i
      · exact hp j hj
      · rw [List.getElem?_eq_none (by omega), List.getElem?_eq_none (by omega)]
    simp [this]
  | succ d ih =>
    intro k i hp hd hk
    obtain ⟨k, rfl⟩ := rounds_succ hk
    simp only [laws_eqIntS.l0]; rw [if_pos (by omega), if_pos (by omega), if_pos (by omega)]
    by_cases e : rd a i = rd b i
    · rw [if_pos e, wrs (by omega)]
      refine ih k (i + 1) ?_ (by omega) (by omega)
      intro j hj
      by_cases e' : j = i
      · subst e'; rw [rd_some a j (by omega), rd_some b j (by omega), e]
      · exact hp j (by omega)
    · rw [if_neg e]
      have : ¬ a = b := fun h => e (by rw [h])
      simp [this]
theorem laws_eqIntS_eq (a b : List Int) (hl : a.length ≤ 1099511627776) (k : Nat) (hk : a.length < k) : laws_eqIntS.f k a b = some (decide (a = b)) := by
  unfold laws_eqIntS.f
  by_cases h : a.length = b.length
  · rw [if_pos (by omega)]
    exact laws_eqIntS_l a b hl h a.length k 0 (fun j hj => by omega) (by omega) hk
  · rw [if_neg (by omega)]
    have : ¬ a = b := fun e => h (by rw [e])
    simp [this]
theorem laws_markByteS_e (a0 : Int) (n : Nat) (h0 : 0 ≤ a0) (h1 : a0 + n ≤ 4611686018427387904) : ∀ (d k i : Nat) (x : List Int) (a : Int), x.length = n → a = a0 + i → i + d = n → d < k →
    ∃ m, laws_markByteS.l0 k x a i = some (a0 + n, m) := by
  intro d
  induction d with
  | zero =>
    intro k i x a hx ha hd hk
    obtain ⟨k, rfl⟩ := rounds_succ hk
    simp only [laws_markByteS.l0]; rw [if_neg (by omega)]
    exact ⟨x, by rw [ha]; congr 2; omega⟩
  | succ d ih =>
    intro k i x a hx ha hd hk
    obtain ⟨k, rfl⟩ := rounds_succ hk
    simp only [laws_markByteS.l0]; rw [if_pos (by omega), if_pos (by omega), wrs (by omega), wr (i := a + 1) (by omega) (by omega), Int.toNat_natCast]
    exact ih k (i + 1) _ _ (by simp [hx]) (by omega) (by omega) (by omega)
theorem laws_markByteS_ends (l : List Int) (a : Int) (h0 : 0 ≤ a) (h1 : a + l.length ≤ 4611686018427387904) (k : Nat) (hk : l.length < k) : ∃ m, laws_markByteS.f k l a = some (a + l.length, m) :=
  laws_markByteS_e a l.length h0 h1 l.length k 0 l a rfl (by omega) (by omega) hk
theorem laws_markIntS_l (a0 : Int) (n : Nat) (h0 : 0 ≤ a0) (h1 : a0 + n ≤ 4611686018427387904) : ∀ (d k i : Nat) (x : List Int) (a : Int), x.length = n → a = a0 + i → (∀ j, j < i → x[j]? = some ((a0 + (j : Int)))) → i + d = n → d < k →
    laws_markIntS.l0 k x a i = some (a0 + n, (List.range n).map fun (j : Nat) => (a0 + (j : Int))) := by
  intro d
  induction d with
  | zero =>
    intro k i x a hx ha hp hd hk
    obtain ⟨k, rfl⟩ := rounds_succ hk
    simp only [laws_markIntS.l0]; rw [if_neg (by omega)]
    have : x = (List.range n).map fun (j : Nat) => (a0 + (j : Int)) := by
      refine List.ext_getElem? fun j => ?_
      by_cases hj : j < n
      · rw [hp j (by omega), List.getElem?_map, List.getElem?_range hj]; rfl
      · rw [List.getElem?_eq_none (by omega), List.getElem?_eq_none (by simp; omega)]
    rw [this, ha]; congr 2; omega
  | succ d ih =>
    intro k i x a hx ha hp hd hk
    obtain ⟨k, rfl⟩ := rounds_succ hk
    simp only [laws_markIntS.l0]; rw [if_pos (by omega), if_pos (by omega), wrs (by omega), wr (i := a + 1) (by omega) (by omega), Int.toNat_natCast]
    refine ih k (i + 1) _ _ (by simp [hx]) (by omega) ?_ (by omega) (by omega)
    intro j hj
    rw [List.getElem?_set]
    by_cases e : i = j
    · subst e; rw [if_pos rfl, if_pos (by omega), ha]
    · rw [if_neg e]; exact hp j (by omega)
theorem laws_heldIntS_l (a0 : Int) (n : Nat) (h0 : 0 ≤ a0) (h1 : a0 + n ≤ 4611686018427387904) : ∀ (d k i : Nat) (a : Int), a = a0 + i → i + d = n → d < k →
    laws_heldIntS.l0 k ((List.range n).map fun (j : Nat) => (a0 + (j : Int))) a i = some (a0 + n) := by
  intro d
  induction d with
  | zero =>
    intro k i a ha hd hk
    obtain ⟨k, rfl⟩ := rounds_succ hk
    simp only [laws_heldIntS.l0]; rw [if_neg (by simp; omega)]
    rw [ha]; congr 1; omega
  | succ d ih =>
    intro k i a ha hd hk
    obtain ⟨k, rfl⟩ := rounds_succ hk
    simp only [laws_heldIntS.l0]; rw [if_pos (by simp; omega), if_pos (by omega), wrs (by omega), wr (i := a + 1) (by omega) (by omega)]
    rw [if_pos (by rw [rd_nat _ _ (by simp; omega)]; simp [ha])]
    exact ih k (i + 1) _ (by omega) (by omega) (by omega)
theorem laws_markIntS_held (l : List Int) (a : Int) (h0 : 0 ≤ a) (h1 : a + l.length ≤ 4611686018427387904) : ∃ m, ∀ k, l.length < k → laws_markIntS.f k l a = some (a + l.length, m) ∧ laws_heldIntS.f k m a = some (a + l.length) :=
  ⟨(List.range l.length).map fun (j : Nat) => (a + (j : Int)), fun k hk => ⟨laws_markIntS_l a l.length h0 h1 l.length k 0 l a rfl (by omega) (fun j hj => by omega) (by omega) hk, laws_heldIntS_l a l.length h0 h1 l.length k 0 a (by omega) (by omega) hk⟩⟩
theorem in_i64 {n : Int} (h : (Lit.int .i64 n).wf = true) : -9223372036854775808 ≤ n ∧ n ≤ 9223372036854775807 := bounds_i64 h
theorem in_u8 {n : Int} (h : (Lit.int .u8 n).wf = true) : 0 ≤ n ∧ n ≤ 255 := bounds_u8 h
theorem take_rd (l : List Int) (i : Nat) (h : i < l.length) : l.take (i + 1) = l.take i ++ [rd l i] := by rw [rd_nat l i h, List.take_add_one, List.getElem?_eq_getElem h]; rfl
theorem wrb (l : List Int) (hw : ∀ x ∈ l, (Lit.int .u8 x).wf = true) (i : Nat) (h : i < l.length) : 0 ≤ rd l i ∧ rd l i ≤ 255 := by
  rw [rd_nat l i h]; exact in_u8 (hw _ (List.getElem_mem h))
theorem impl_BI_l (l : List Int) (hl : l.length ≤ 1099511627776) (hw : ∀ x ∈ l, (Lit.int .u8 x).wf = true) : ∀ (d k i : Nat) (o : List Int), o = (l.length : Int) :: l.take i → i + d = l.length → d < k → impl_BytesToInts.l0 k o l (l.length : Int) i = some ((l.length : Int) :: l) := by
  intro d
  induction d with
  | zero =>
    intro k i o ho hd hk
    obtain ⟨k, rfl⟩ := rounds_succ hk
    simp only [impl_BytesToInts.l0]; rw [if_neg (by omega), ho, List.take_of_length_le (by omega)]
  | succ d ih =>
    intro k i o ho hd hk
    obtain ⟨k, rfl⟩ := rounds_succ hk
    have hb := wrb l hw i (by omega)
    simp only [impl_BytesToInts.l0]; rw [if_pos (by omega), if_pos (by omega), if_pos (by omega), if_pos (by rw [ho, List.length_cons, List.length_take]; omega), wrs (by omega), wr (i := rd l i) (by omega) (by omega)]
    exact ih k (i + 1) _ (by rw [ho, take_rd l i (by omega)]; rfl) (by omega) (by omega)
theorem impl_BI_eq (l : List Int) (hl : l.length ≤ 1099511627776) (hw : ∀ x ∈ l, (Lit.int .u8 x).wf = true) (k : Nat) (hk : l.length < k) : impl_BytesToInts.f k l = some ((l.length : Int) :: l) :=
  impl_BI_l l hl hw l.length k 0 _ rfl (by omega) hk
theorem spec_BI_l (l : List Int) (hl : l.length ≤ 1099511627776) (hw : ∀ x ∈ l, (Lit.int .u8 x).wf = true) : ∀ (d k i : Nat) (o : List Int), o = (l.length : Int) :: l.take i → i + d = l.length → d < k → spec_BytesToInts.l0 k l o i = some ((l.length : Int) :: l) := by
  intro d
  induction d with
  | zero =>
    intro k i o ho hd hk
    obtain ⟨k, rfl⟩ := rounds_succ hk
    simp only [spec_BytesToInts.l0]; rw [if_neg (by omega), ho, List.take_of_length_le (by omega)]
  | succ d ih =>
    intro k i o ho hd hk
    obtain ⟨k, rfl⟩ := rounds_succ hk
    have hb := wrb l hw i (by omega)
    simp only [spec_BytesToInts.l0]; rw [if_pos (by omega), if_pos (by omega), if_pos (by rw [ho, List.length_cons, List.length_take]; omega), wrs (by omega), wr (i := rd l i) (by omega) (by omega)]
    exact ih k (i + 1) _ (by rw [ho, take_rd l i (by omega)]; rfl) (by omega) (by omega)
theorem spec_BI_eq (l : List Int) (hl : l.length ≤ 1099511627776) (hw : ∀ x ∈ l, (Lit.int .u8 x).wf = true) (k : Nat) (hk : l.length < k) : spec_BytesToInts.f k l = some ((l.length : Int) :: l) :=
  spec_BI_l l hl hw l.length k 0 _ rfl (by omega) hk
theorem FnExactBytesToInts : laws_FnExactBytesToInts.Pure := by
  intro b _ _ hw
  obtain ⟨K, hK⟩ : ∃ K, K = (b).length + (((b.length : Int) :: b)).length + 60 := ⟨_, rfl⟩
  refine ⟨K + 8, ?_⟩
  unfold laws_FnExactBytesToInts.f
  by_cases z_b : b.length ≤ 1048576
  · rw [if_neg (by omega)]
    have hr2 : ((b.length : Int) :: b).length = b.length + 1 := List.length_cons
    have h1_0 : ∀ j, laws_toByteS.f (K + j) b = some b := fun j => laws_toByteS_eq b z_b _ (by omega)
    have h2_0 : ∀ j, laws_eqByteS.f (K + j) b b = some true := fun j => by rw [laws_eqByteS_eq b b (by omega) _ (by omega)]; simp
    have hi : ∀ j, impl_BytesToInts.f (K + j) b = some ((b.length : Int) :: b) := fun j => impl_BI_eq b (by omega) hw _ (by omega)
    have hs : ∀ j, spec_BytesToInts.f (K + j) b = some ((b.length : Int) :: b) := fun j => spec_BI_eq b (by omega) hw _ (by omega)
    have he : ∀ j, laws_eqIntS.f (K + j) ((b.length : Int) :: b) ((b.length : Int) :: b) = some true := fun j => by rw [laws_eqIntS_eq _ _ (by omega) _ (by omega)]; simp
    have hm_0 : ∀ j, ∃ m, laws_markByteS.f (K + j) b (1 : Int) = some (((1 : Int) + (b.length : Int)), m) := fun j => laws_markByteS_ends b (1 : Int) (by omega) (by omega) _ (by omega)
    have n1 : ¬ (((1 : Int) + (b.length : Int)) < 0) := by omega
    obtain ⟨mm, hmm⟩ := laws_markIntS_held ((b.length : Int) :: b) 1 (by omega) (by omega)
    have hk1 : ∀ j, laws_markIntS.f (K + j) ((b.length : Int) :: b) 1 = some (1 + ((((b.length : Int) :: b)).length : Int), mm) := fun j => (hmm _ (by omega)).1
    have hk2 : ∀ j, laws_heldIntS.f (K + j) mm 1 = some (1 + ((((b.length : Int) :: b)).length : Int)) := fun j => (hmm _ (by omega)).2
    have n2 : ¬ ((1 : Int) + ((((b.length : Int) :: b)).length : Int) < 0) := by omega
    obtain ⟨m_0, hmk_0⟩ := hm_0 8
    simp only [laws_FnExactBytesToInts.j0, h1_0, h2_0, hi, hs, he, hk1, hk2, hmk_0, n1, n2, Option.bind_some, if_true, if_false, Bool.not_true, Bool.false_eq_true]
  · rw [if_pos (by omega)]
end Go.Proofs.Ytomnploadmbagaa.Pure
/-- The row names this lemma from inside this namespace. -/
theorem Go.Proofs.Ytomnploadmbagaa.PrintWords.sized_ints {H : Type} {enc : Go.TypeId × Go.Value → H} {P : Go.Program} {W : Go.World} {base : Nat} {spare : Nat → Bool} {held : Bool} {t e : Go.TypeId} {k : Go.IntKind} {a : Option Go.Addr} {len cap : Nat} {d : Go.DataW H} {ps : List Go.MemPlace} {ts : List Go.TypeId} {ds : List (Go.DataW H)} {j : Nat}
    (hsz : (Go.DataW.weightsEach P ts ds).all (· ≤ Go.reachBytes) = true) (ht : ts[j]? = some t) (hd : ds[j]? = some d) (hu : P.underlying t = some (.slice e)) (he : P.underlying e = some (.int k)) (hc : P.cellsOf e = 1) {B : Nat} (hB : P.bytesOf e = B)
    (h : Go.DataW.Trod enc P W base spare held t (.slice a len cap) d ps) : len * B ≤ 140737488351232 :=
  Go.Proofs.YtomnploadmbagaaW.PrintWords.sized_ints hsz ht hd hu he hc hB h
