/- What stands in any case is complete, and labels tell for each claim why, for all inputs of the law. Conditions: none. -/
import Derived.Test.YtelkfhlnejlheaaGFnGroundedx12
import Derived.OpenShut
namespace Go.Proofs.Ytelkfhlnejlheaa.Pure
open Go.RowKit Go.Proofs.Ytelkfhlnejlheaa.GFnGrounded Go.Proofs.YtelkfhlnejlheaaW.PrintWords Go.Proofs.YtelkfhlnejlheaaW.PrintLast
theorem wr {i : Int} (h0 : -9223372036854775808 ≤ i) (h : i ≤ 9223372036854775807) : wrap64 i = i := by unfold wrap64; omega
theorem wrs {i : Nat} (h : i < 9223372036854775807) : wrap64 ((i : Int) + 1) = ((i + 1 : Nat) : Int) := by unfold wrap64; omega
theorem rd_nat (l : List Int) (i : Nat) (h : i < l.length) : rd l (i : Int) = l[i] := by simp [rd, h]
theorem rd_some (l : List Int) (i : Nat) (h : i < l.length) : l[i]? = some (rd l (i : Int)) := by rw [rd_nat l i h, List.getElem?_eq_getElem h]
theorem rounds_succ {d k : Nat} (h : d < k) : ∃ m, k = m + 1 := ⟨k - 1, by omega⟩
theorem rdL_nat (l : List (List Int)) (i : Nat) (h : i < l.length) : rd_L1 l (i : Int) = l[i] := by simp [rd_L1, h]
theorem rdL_mem (l : List (List Int)) (i : Nat) (h : i < l.length) : rd_L1 l (i : Int) ∈ l := by rw [rdL_nat l i h]; exact List.getElem_mem h
theorem rdL_drop (l : List (List Int)) (i : Nat) (h : i < l.length) : l.drop i = rd_L1 l (i : Int) :: l.drop (i + 1) := by rw [rdL_nat l i h]; exact List.drop_eq_getElem_cons h
def okE (w : Int) (p : List Int) : Bool := decide (p.length = 2 ∧ (0 ≤ rd p 0 ∧ rd p 0 ≤ w) ∧ (0 ≤ rd p 1 ∧ rd p 1 ≤ w))
def lexlt (p q : List Int) : Bool := decide (rd p 0 < rd q 0 ∨ (rd p 0 = rd q 0 ∧ rd p 1 < rd q 1))
def gl (w : Int) : Option (List Int) → List (List Int) → Bool
  | _, [] => true
  | prev, p :: R => okE w p && (match prev with | none => true | some q => lexlt q p) && gl w (some p) R
def isG (n : Int) (A : List (List Int)) : Bool := decide (0 ≤ n ∧ n ≤ 10) && gl (n - 1) none A
theorem gl_ok (w : Int) (R : List (List Int)) : ∀ prev, gl w prev R = true → ∀ p ∈ R, okE w p = true := by
  induction R with
  | nil => intro prev _ p hp; cases hp
  | cons q R ih =>
    intro prev h p hp
    simp only [gl, Bool.and_eq_true] at h
    rcases List.mem_cons.1 hp with e | e
    · rw [e]; exact h.1.1
    · exact ih _ h.2 p e
theorem isG_ok {n : Int} {A : List (List Int)} (h : isG n A = true) : (0 ≤ n ∧ n ≤ 10) ∧ ∀ p ∈ A, p.length = 2 ∧ (0 ≤ rd p 0 ∧ rd p 0 < n) ∧ (0 ≤ rd p 1 ∧ rd p 1 < n) := by
  unfold isG at h
  simp only [Bool.and_eq_true, decide_eq_true_eq] at h
  refine ⟨h.1, fun p hp => ?_⟩
  have := gl_ok _ _ _ h.2 p hp
  unfold okE at this
  have := of_decide_eq_true this
  omega
def prevOf (A : List (List Int)) (i : Nat) : Option (List Int) := if i = 0 then none else some (rd_L1 A ((i - 1 : Nat) : Int))
theorem prevOf_succ (A : List (List Int)) (i : Nat) : prevOf A (i + 1) = some (rd_L1 A (i : Int)) := by unfold prevOf; rw [if_neg (by omega)]; rfl
theorem spec_l1In_eq (a b c : Int) : spec_l1In.f a b c = some (decide (b ≤ a ∧ a ≤ c)) := by
  unfold spec_l1In.f; by_cases h : b ≤ a <;> simp [h]
theorem spec_IsGraph_l (n : Int) (A : List (List Int)) (hA : A.length ≤ 1048576) : ∀ (d k i : Nat), i + d = A.length → (∀ j, j < i → (rd_L1 A (j : Int)).length = 2) → 2 * d + 1 < k →
    spec_IsGraph.l0 k i n A = some (gl (wrap64 (n - 1)) (prevOf A i) (A.drop i) && decide (0 ≤ n ∧ n ≤ 10)) := by
  generalize hw : wrap64 (n - 1) = w
  intro d
  induction d with
  | zero =>
    intro k i hd hp hk
    obtain ⟨k, rfl⟩ := rounds_succ hk
    simp only [spec_IsGraph.l0]; rw [if_neg (by omega), List.drop_eq_nil_of_le (by omega), spec_l1In_eq, Option.bind_some]
    simp [gl]
  | succ d ih =>
    intro k i hd hp hk
    obtain ⟨k, rfl⟩ := rounds_succ hk
    obtain ⟨k, rfl⟩ := rounds_succ (show 0 < k by omega)
    simp only [spec_IsGraph.l0]; rw [if_pos (by omega), if_pos (by omega), hw, rdL_drop A i (by omega)]
    simp only [gl]
    generalize hq : rd_L1 A (i : Int) = p
    by_cases h2 : p.length = 2
    · rw [if_pos (by omega), if_pos (by omega), spec_l1In_eq, Option.bind_some]
      by_cases h3 : 0 ≤ rd p 0 ∧ rd p 0 ≤ w
      · rw [if_pos (by simp [h3]), if_pos (by omega), spec_l1In_eq, Option.bind_some]
        by_cases h4 : 0 ≤ rd p 1 ∧ rd p 1 ≤ w
        · have hok : okE w p = true := by unfold okE; simp [h2, h3, h4]
          have hnext := ih k (i + 1) (by omega) (fun j hj => by
            by_cases e : j = i
            · rw [e, hq]; exact h2
            · exact hp j (by omega)) (by omega)
          rw [prevOf_succ, hq] at hnext
          simp only [spec_IsGraph.j1, hok, Bool.true_and]
          rw [if_neg (by simp [h4])]
          by_cases hi : i = 0
          · subst hi
            rw [if_neg (by omega)]
            rw [show wrap64 (((0 : Nat) : Int) + 1) = ((0 + 1 : Nat) : Int) from wrs (by omega), hnext]
            simp [prevOf]
          · have e1 : prevOf A i = some (rd_L1 A ((i - 1 : Nat) : Int)) := by unfold prevOf; rw [if_neg hi]
            have hl := hp (i - 1) (by omega)
            rw [e1]
            rw [if_pos (by omega), show wrap64 ((i : Int) - 1) = ((i - 1 : Nat) : Int) by rw [wr (by omega) (by omega)]; omega]
            generalize rd_L1 A ((i - 1 : Nat) : Int) = q at hl ⊢
            rw [if_pos (by omega), if_pos (by omega), if_pos (by omega), if_pos (by omega), wrs (by omega), hnext]
            by_cases h5 : rd q 0 > rd p 0
            · rw [if_pos h5]
              have : lexlt q p = false := by unfold lexlt; simp; omega
              simp [this]
            · rw [if_neg h5]
              by_cases h6 : rd q 0 = rd p 0
              · rw [if_pos h6, if_pos (by omega), if_pos (by omega)]
                by_cases h7 : rd q 1 ≥ rd p 1
                · rw [if_pos h7]
                  have : lexlt q p = false := by unfold lexlt; simp; omega
                  simp [this]
                · rw [if_neg h7]
                  have : lexlt q p = true := by unfold lexlt; simp; omega
                  simp [this]
              · rw [if_neg h6]
                have : lexlt q p = true := by unfold lexlt; simp; omega
                simp [this]
        · have hok : okE w p = false := by unfold okE; simp; omega
          simp only [spec_IsGraph.j1, hok, Bool.false_and]
          rw [if_pos (by simp; omega)]
      · have hok : okE w p = false := by unfold okE; simp; omega
        rw [if_neg (by simp; omega)]
        simp [spec_IsGraph.j1, hok]
    · have hok : okE w p = false := by unfold okE; simp [h2]
      rw [if_neg (by omega)]
      simp [spec_IsGraph.j1, hok]
theorem spec_IsGraph_eq (n : Int) (A : List (List Int)) (hA : A.length ≤ 1048576) (k : Nat) (hk : 2 * A.length + 1 < k) : spec_IsGraph.f k n A = some (isG n A) := by
  have := spec_IsGraph_l n A hA A.length k 0 (by omega) (fun j hj => by omega) hk
  unfold spec_IsGraph.f isG
  rw [show ((0 : Nat) : Int) = 0 from rfl] at this
  rw [this]
  by_cases h : 0 ≤ n ∧ n ≤ 10
  · rw [wr (i := n - 1) (by omega) (by omega)]; simp [h, prevOf]
  · simp [h]
def ins (a b : Int) : List (List Int) → List (List Int)
  | [] => [[a, b]]
  | x :: R => if rd x 0 > a ∨ (rd x 0 = a ∧ rd x 1 > b) then [a, b] :: x :: R else x :: ins a b R
theorem ins_len (a b : Int) (R : List (List Int)) : (ins a b R).length = R.length + 1 := by
  induction R with
  | nil => rfl
  | cons x R ih => unfold ins; split <;> simp [ih]
theorem ins_mem (a b : Int) (R : List (List Int)) : ∀ r ∈ ins a b R, r = [a, b] ∨ r ∈ R := by
  induction R with
  | nil => intro r hr; simp [ins] at hr; exact .inl hr
  | cons x R ih =>
    intro r hr
    unfold ins at hr
    split at hr
    · rcases List.mem_cons.1 hr with e | e
      · exact .inl e
      · exact .inr e
    · rcases List.mem_cons.1 hr with e | e
      · exact .inr (by rw [e]; exact List.mem_cons_self)
      · rcases ih r e with h | h
        · exact .inl h
        · exact .inr (List.mem_cons_of_mem _ h)
def fin (n : Int) (A O : List (List Int)) : Int × List (List Int) × Bool := if (isG n A && isG n O) = true then (n, O, true) else (n, A, false)
theorem take_snoc (A : List (List Int)) (i : Nat) (h : i < A.length) : A.take i ++ [rd_L1 A (i : Int)] = A.take (i + 1) := by
  rw [rdL_nat A i h, List.take_succ_eq_append_getElem h]
theorem l4Copy_l (n : Int) (A : List (List Int)) (hA : A.length ≤ 1048576) (hr : ∀ r ∈ A, r.length ≤ 1048576) : ∀ (d k i : Nat), i + d = A.length → d < k → spec_l4Copy.l0 k i n A n (A.take i) = some (n, A) := by
  intro d
  induction d with
  | zero =>
    intro k i hd hk
    obtain ⟨k, rfl⟩ := rounds_succ hk
    simp only [spec_l4Copy.l0]; rw [if_neg (by omega), List.take_of_length_le (by omega)]
  | succ d ih =>
    intro k i hd hk
    obtain ⟨k, rfl⟩ := rounds_succ hk
    have hm := hr _ (rdL_mem A i (by omega))
    simp only [spec_l4Copy.l0]; rw [if_pos (by omega), Option.bind_some, if_pos (by omega), if_pos (by simp only [List.length_nil]; omega), if_pos (by rw [List.length_take]; omega), wrs (by omega), List.nil_append, take_snoc A i (by omega)]
    exact ih k (i + 1) (by omega) (by omega)
theorem l4Copy_eq (n : Int) (A : List (List Int)) (hA : A.length ≤ 1048576) (hr : ∀ r ∈ A, r.length ≤ 1048576) (k : Nat) (hk : A.length < k) : spec_l4Copy.f k n A = some (n, A) :=
  l4Copy_l n A hA hr A.length k 0 (by omega) hk
theorem add_j2 (n : Int) (A O : List (List Int)) (hA : A.length ≤ 1000000) (hr : ∀ r ∈ A, r.length ≤ 1048576) (hO : O.length ≤ 1048576) (k : Nat) (hk : 2 * A.length + 2 * O.length + 10 < k) : spec_AddAttack.j2 k n A n O = some (fin n A O) := by
  obtain ⟨k, rfl⟩ := rounds_succ hk
  simp only [spec_AddAttack.j2]
  rw [spec_IsGraph_eq n A (by omega) k (by omega), Option.bind_some]
  unfold fin
  by_cases h1 : isG n A = true
  · rw [if_pos h1, spec_IsGraph_eq n O hO k (by omega), Option.bind_some]
    by_cases h2 : isG n O = true
    · rw [if_pos h2, if_pos (by simp [h1, h2])]
    · rw [if_neg h2, if_neg (by simp [h2]), l4Copy_eq n A (by omega) hr k (by omega), Option.bind_some]
  · rw [if_neg h1, if_neg (by simp [h1]), l4Copy_eq n A (by omega) hr k (by omega), Option.bind_some]
theorem add_done (n : Int) (A : List (List Int)) (a b : Int) (hA : A.length ≤ 1000000) (hg : isG n A = true) : ∀ (d k i : Nat) (O : List (List Int)), i + d = A.length → O.length ≤ i + 1 → 2 * d + 4 * A.length + 50 < k → spec_AddAttack.l0 k a b true i n A n O = some (fin n A (O ++ A.drop i)) := by
  have hr2 := (isG_ok hg).2
  intro d
  induction d with
  | zero =>
    intro k i O hd hO hk
    obtain ⟨k, rfl⟩ := rounds_succ hk
    obtain ⟨k, rfl⟩ := rounds_succ (show 0 < k by omega)
    simp only [spec_AddAttack.l0, spec_AddAttack.j1]; rw [if_neg (by omega), if_neg (by simp), if_pos trivial, List.drop_eq_nil_of_le (by omega), List.append_nil]
    exact add_j2 n A O hA (fun r h => by have := (hr2 r h).1; omega) (by omega) k (by omega)
  | succ d ih =>
    intro k i O hd hO hk
    obtain ⟨k, rfl⟩ := rounds_succ hk
    obtain ⟨k, rfl⟩ := rounds_succ (show 0 < k by omega)
    have hm := (hr2 _ (rdL_mem A i (by omega))).1
    simp only [spec_AddAttack.l0]; rw [if_pos (by omega), spec_IsGraph_eq n A (by omega) (k + 1) (by omega), Option.bind_some, hg]
    simp only [spec_AddAttack.j1]; rw [if_pos trivial, if_pos (by omega), if_pos (by omega), if_pos trivial, Option.bind_some, if_pos (by simp only [List.length_nil]; omega), if_pos (by omega), wrs (by omega), List.nil_append, ih k (i + 1) _ (by omega) (by rw [List.length_append, List.length_singleton]; omega) (by omega), rdL_drop A i (by omega), List.append_assoc]
    rfl
theorem add_go (n : Int) (A : List (List Int)) (a b : Int) (hA : A.length ≤ 1000000) (hg : isG n A = true) : ∀ (d k i : Nat), i + d = A.length → 2 * d + 4 * A.length + 60 < k → spec_AddAttack.l0 k a b false i n A n (A.take i) = some (fin n A (A.take i ++ ins a b (A.drop i))) := by
  have hr2 := (isG_ok hg).2
  intro d
  induction d with
  | zero =>
    intro k i hd hk
    obtain ⟨k, rfl⟩ := rounds_succ hk
    obtain ⟨k, rfl⟩ := rounds_succ (show 0 < k by omega)
    have hl : (A.take i).length = i := by rw [List.length_take]; omega
    simp only [spec_AddAttack.l0, spec_AddAttack.j1]; rw [if_neg (by omega), if_neg (by simp), if_neg (by simp), if_pos (by omega), List.drop_eq_nil_of_le (by omega)]
    exact add_j2 n A _ hA (fun r h => by have := (hr2 r h).1; omega) (by rw [List.length_append, List.length_singleton]; omega) k (by rw [List.length_append, List.length_singleton]; omega)
  | succ d ih =>
    intro k i hd hk
    obtain ⟨k, rfl⟩ := rounds_succ hk
    obtain ⟨k, rfl⟩ := rounds_succ (show 0 < k by omega)
    have hl : (A.take i).length = i := by rw [List.length_take]; omega
    have hm := (hr2 _ (rdL_mem A i (by omega))).1
    have hput : spec_AddAttack.l0 k a b true ((i + 1 : Nat) : Int) n A n (A.take i ++ [([a, b] : List Int)] ++ [rd_L1 A (i : Int)]) = some (fin n A (A.take i ++ ([a, b] :: A.drop i))) := by
      rw [add_done n A a b hA hg d k (i + 1) _ (by omega) (by simp only [List.length_append, List.length_singleton]; omega) (by omega), rdL_drop A i (by omega)]
      simp [List.append_assoc]
    have hgo := ih k (i + 1) (by omega) (by omega)
    rw [← take_snoc A i (by omega)] at hgo
    simp only [spec_AddAttack.l0]; rw [if_pos (by omega), spec_IsGraph_eq n A (by omega) (k + 1) (by omega), Option.bind_some, hg]
    rw [rdL_drop A i (by omega)] at hput ⊢
    simp only [spec_AddAttack.j1]
    generalize rd_L1 A (i : Int) = x at hm hput hgo ⊢
    rw [if_pos trivial, if_pos (by omega), if_pos (by omega), if_neg (by simp), if_pos (by omega)]
    simp only [Option.bind_some, List.nil_append]
    unfold ins
    by_cases h1 : rd x 0 > a
    · rw [if_pos h1, if_pos (by omega), if_pos (by simp only [List.length_nil]; omega), if_pos (by simp only [List.length_append, List.length_singleton]; omega), wrs (by omega), if_pos (.inl h1)]
      exact hput
    · rw [if_neg h1]
      by_cases h2 : rd x 0 = a
      · rw [if_pos h2, if_pos (by omega)]
        by_cases h3 : rd x 1 > b
        · rw [if_pos h3, if_pos (by omega), if_pos (by simp only [List.length_nil]; omega), if_pos (by simp only [List.length_append, List.length_singleton]; omega), wrs (by omega), if_pos (.inr ⟨h2, h3⟩)]
          exact hput
        · rw [if_neg h3, if_pos (by simp only [List.length_nil]; omega), if_pos (by omega), wrs (by omega), if_neg (by omega), hgo]
          simp [List.append_assoc]
      · rw [if_neg h2, if_pos (by simp only [List.length_nil]; omega), if_pos (by omega), wrs (by omega), if_neg (by omega), hgo]
        simp [List.append_assoc]
theorem spec_AddAttack_eq (n : Int) (A : List (List Int)) (a b : Int) (hA : A.length ≤ 1000000) (hr : ∀ r ∈ A, r.length ≤ 1048576) (k : Nat) (hk : 6 * A.length + 70 < k) : spec_AddAttack.f k n A a b = some (fin n A (ins a b A)) := by
  unfold spec_AddAttack.f
  by_cases hg : isG n A = true
  · have := add_go n A a b hA hg A.length k 0 (by omega) (by omega)
    simpa using this
  · have hf : isG n A = false := by simpa using hg
    obtain ⟨k, rfl⟩ := rounds_succ hk
    obtain ⟨k, rfl⟩ := rounds_succ (show 0 < k by omega)
    have hj := add_j2 n A ([] ++ [[a, b]]) hA hr (by simp) k (by simp; omega)
    have e : fin n A ([] ++ [[a, b]]) = fin n A (ins a b A) := by unfold fin; rw [hf]; rfl
    rw [e] at hj
    have hj1 : spec_AddAttack.j1 (k + 1) a b false 0 false n A n [] = some (fin n A (ins a b A)) := by
      simp only [spec_AddAttack.j1]
      rw [if_neg (by simp), if_neg (by simp), if_pos (by simp)]
      exact hj
    simp only [spec_AddAttack.l0]
    rw [spec_IsGraph_eq n A (by omega) (k + 1) (by omega), Option.bind_some, hf]
    split <;> exact hj1
theorem tmod_nn (a b : Int) (ha : 0 ≤ a) : a.tmod b = a % b := by rw [Int.tmod_eq_emod, if_pos (.inl ha)]; omega
theorem and255 (y : Int) : 0 ≤ Go.bits .and .i64 y 255 ∧ Go.bits .and .i64 y 255 ≤ 255 := by
  have h : ((BitVec.ofInt 64 y &&& BitVec.ofInt 64 255).toNat) ≤ 255 := by
    rw [BitVec.toNat_and]
    exact Nat.and_le_right
  have e : Go.bits .and .i64 y 255 = IntKind.i64.wrap ((BitVec.ofInt 64 y &&& BitVec.ofInt 64 255).toNat : Int) := rfl
  rw [e]
  generalize (BitVec.ofInt 64 y &&& BitVec.ofInt 64 255).toNat = m at h
  rw [IntKind.wrap_i64]; omega
theorem l1New_l (b : List Int) (_hb : b.length ≤ 1048576) : ∀ (d k i : Nat) (h : Int), i + d = b.length → d < k → ∃ h', spec_l1New.l0 k b h i = some (b, 0, h') := by
  intro d
  induction d with
  | zero =>
    intro k i h hd hk
    obtain ⟨k, rfl⟩ := rounds_succ hk
    simp only [spec_l1New.l0]; rw [if_neg (by omega)]
    exact ⟨h, rfl⟩
  | succ d ih =>
    intro k i h hd hk
    obtain ⟨k, rfl⟩ := rounds_succ hk
    simp only [spec_l1New.l0]; rw [if_pos (by omega)]
    by_cases h4 : (i : Int) < 4000
    · rw [if_pos h4, if_pos (by omega), wrs (by omega)]
      exact ih k (i + 1) _ (by omega) (by omega)
    · rw [if_neg h4]
      exact ⟨h, rfl⟩
theorem l1New_eq (b : List Int) (hb : b.length ≤ 1048576) (k : Nat) (hk : b.length < k) : ∃ h', spec_l1New.f k b = some (b, 0, h') :=
  l1New_l b hb b.length k 0 _ (by omega) hk
def Cur (b : List Int) (i : Int) : Prop := 0 ≤ i ∧ i ≤ (b.length : Int)
theorem l1Byte_eq (b : List Int) (hb : b.length ≤ 1048576) (i h : Int) (hc : Cur b i) : ∃ x i' h', spec_l1Byte.f b i h = some (x, i', h') ∧ 0 ≤ x ∧ x ≤ 255 ∧ Cur b i' := by
  unfold Cur at *
  unfold spec_l1Byte.f
  by_cases h1 : i < (b.length : Int)
  · rw [if_pos h1, if_pos hc.1]
    exact ⟨_, _, _, rfl, (and255 _).1, (and255 _).2, by rw [wr (by omega) (by omega)]; omega⟩
  · rw [if_neg h1]
    exact ⟨_, _, _, rfl, (and255 _).1, (and255 _).2, hc⟩
theorem l1Below_eq (b : List Int) (hb : b.length ≤ 1048576) (i h : Int) (hc : Cur b i) (n : Int) : ∃ x i' h', spec_l1Below.f b i h n = some (x, i', h') ∧ 0 ≤ x ∧ (x < n ∨ (n ≤ 0 ∧ x = 0)) ∧ Cur b i' := by
  unfold spec_l1Below.f
  by_cases h0 : n ≤ 0
  · rw [if_pos h0]; exact ⟨0, i, h, rfl, by omega, .inr ⟨h0, rfl⟩, hc⟩
  · rw [if_neg h0]
    by_cases h1 : n ≤ 256
    · obtain ⟨x, i1, k1, e, g1, g2, g3⟩ := l1Byte_eq b hb i h hc
      rw [if_pos h1, e, Option.bind_some, if_neg (by omega)]
      simp only []
      rw [tmod_nn _ _ g1]
      exact ⟨_, i1, k1, rfl, Int.emod_nonneg _ (by omega), .inl (Int.emod_lt_of_pos _ (by omega)), g3⟩
    · obtain ⟨x, i1, k1, e, g1, g2, g3⟩ := l1Byte_eq b hb i h hc
      obtain ⟨y, i2, k2, e2, p1, p2, p3⟩ := l1Byte_eq b hb i1 k1 g3
      obtain ⟨z, i3, k3, e3, q1, q2, q3⟩ := l1Byte_eq b hb i2 k2 p3
      rw [if_neg h1, e, Option.bind_some]
      simp only []
      rw [e2, Option.bind_some]
      simp only []
      rw [e3, Option.bind_some, if_neg (by omega)]
      simp only []
      rw [wr (i := x * 65536) (by omega) (by omega), wr (i := y * 256) (by omega) (by omega), wr (i := x * 65536 + _) (by omega) (by omega), wr (by omega) (by omega), tmod_nn _ _ (by omega)]
      exact ⟨_, i3, k3, rfl, Int.emod_nonneg _ (by omega), .inl (Int.emod_lt_of_pos _ (by omega)), q3⟩
theorem l1Int_eq (b : List Int) (hb : b.length ≤ 1048576) (c h : Int) (hc : Cur b c) (l : List Int) (h0 : 0 < l.length) : ∃ x c' h', spec_l1Int.f b c h l = some (x, c', h') ∧ x ∈ l ∧ Cur b c' := by
  unfold spec_l1Int.f
  obtain ⟨x, i1, k1, e, g1, g2, g3⟩ := l1Below_eq b hb c h hc (l.length : Int)
  rw [e, Option.bind_some]
  simp only []
  rw [if_pos g1, if_pos (by omega)]
  refine ⟨_, i1, k1, rfl, ?_, g3⟩
  have := rd_nat l x.toNat (by omega)
  rw [show ((x.toNat : Nat) : Int) = x by omega] at this
  rw [this]; exact List.getElem_mem _
theorem l1Once_eq (b : List Int) (hb : b.length ≤ 1048576) (c h : Int) (hc : Cur b c) (n : Int) : ∃ (x : Bool) (c' h' : Int), spec_l1Once.f b c h n = some (x, c', h') ∧ Cur b c' := by
  unfold spec_l1Once.f
  obtain ⟨x, i1, k1, e, g1, g2, g3⟩ := l1Below_eq b hb c h hc n
  rw [e, Option.bind_some]
  exact ⟨_, i1, k1, rfl, g3⟩
def Sm (m : Nat) (A : List (List Int)) : Prop := A.length ≤ m ∧ ∀ r ∈ A, r.length ≤ 2
theorem fin_sm {n : Int} {A : List (List Int)} {a b : Int} {m : Nat} (h : Sm m A) : ∃ A' ok, fin n A (ins a b A) = (n, A', ok) ∧ Sm (m + 1) A' := by
  unfold fin
  split
  · refine ⟨_, _, rfl, by rw [ins_len]; have := h.1; omega, fun r hr => ?_⟩
    rcases ins_mem a b A r hr with e | e
    · rw [e]; simp
    · exact h.2 r e
  · exact ⟨_, _, rfl, by have := h.1; omega, h.2⟩
theorem l4Draw_l (b : List Int) (hb : b.length ≤ 1048576) (n : Int) : ∀ (d k : Nat) (c h : Int) (A : List (List Int)) (m : Nat), Cur b c → Sm m A → m + d ≤ 1000 → d + 6100 < k → ∃ A' c' h', spec_l4Draw.l0 k d b c h n A = some (n, A', c', h') ∧ Sm (m + d) A' ∧ Cur b c' := by
  intro d
  induction d with
  | zero =>
    intro k c h A m hc hs hm hk
    obtain ⟨k, rfl⟩ := rounds_succ hk
    simp only [spec_l4Draw.l0]; rw [if_neg (by omega)]
    exact ⟨A, c, h, rfl, hs, hc⟩
  | succ d ih =>
    intro k c h A m hc hs hm hk
    obtain ⟨k, rfl⟩ := rounds_succ hk
    obtain ⟨x, i1, k1, e1, _, _, g3⟩ := l1Below_eq b hb c h hc n
    obtain ⟨y, i2, k2, e2, _, _, p3⟩ := l1Below_eq b hb i1 k1 g3 n
    have h1 := hs.1
    obtain ⟨A', ok, e3, hs'⟩ := fin_sm (n := n) (a := x) (b := y) hs
    simp only [spec_l4Draw.l0]; rw [if_pos (by omega), e1, Option.bind_some]; simp only []
    rw [e2, Option.bind_some]; simp only []
    rw [spec_AddAttack_eq n A x y (by omega) (fun r hr => by have := hs.2 r hr; omega) k (by omega), Option.bind_some, e3]; simp only []
    rw [show wrap64 (((d + 1 : Nat) : Int) - 1) = (d : Int) by rw [wr (by omega) (by omega)]; omega]
    obtain ⟨A2, c2, h2, q1, q2, q3⟩ := ih k i2 k2 A' (m + 1) p3 hs' (by omega) (by omega)
    exact ⟨A2, c2, h2, q1, by rw [show m + (d + 1) = m + 1 + d by omega]; exact q2, q3⟩
theorem l4Draw_eq (b : List Int) (hb : b.length ≤ 1048576) (c h : Int) (hc : Cur b c) (k : Nat) (hk : 7000 < k) : ∃ n A c' h', spec_l4Draw.f k b c h = some (n, A, c', h') ∧ (1 ≤ n ∧ n ≤ 6) ∧ Sm 10 A ∧ Cur b c' := by
  unfold spec_l4Draw.f
  obtain ⟨x, i1, k1, e1, g1, g2, g3⟩ := l1Below_eq b hb c h hc 6
  rw [e1, Option.bind_some]; simp only []
  obtain ⟨y, i2, k2, e2, p1, p2, p3⟩ := l1Below_eq b hb i1 k1 g3 10
  rw [e2, Option.bind_some]; simp only []
  rw [wr (i := 1 + x) (by omega) (by omega)]
  obtain ⟨A, c', h', e3, q2, q3⟩ := l4Draw_l b hb (1 + x) y.toNat k i2 k2 [] 0 p3 ⟨by simp, fun r hr => by cases hr⟩ (by omega) (by omega)
  rw [show ((y.toNat : Nat) : Int) = y by omega] at e3
  exact ⟨1 + x, A, c', h', e3, by omega, ⟨by have := q2.1; omega, q2.2⟩, q3⟩
theorem l4Raw_eq (b : List Int) (hb : b.length ≤ 1048576) (c h : Int) (hc : Cur b c) : ∃ x c' h', spec_l4Raw.f b c h = some (x, c', h') ∧ Cur b c' := by
  unfold spec_l4Raw.f
  obtain ⟨x, i1, k1, e1, _, g3⟩ := l1Int_eq b hb c h hc [(-1), 0, 5, 10, 11, 9223372036854775807, (-9223372036854775808)] (by simp)
  rw [e1, Option.bind_some]
  exact ⟨x, i1, k1, rfl, g3⟩
theorem l4Any_eq (b : List Int) (hb : b.length ≤ 1048576) (c h : Int) (hc : Cur b c) (k : Nat) (hk : 7000 < k) : ∃ n A c' h', spec_l4Any.f k b c h = some (n, A, c', h') ∧ Sm 11 A ∧ Cur b c' := by
  unfold spec_l4Any.f
  obtain ⟨n, A, i0, k0, e0, _, hs, g0⟩ := l4Draw_eq b hb c h hc k hk
  rw [e0, Option.bind_some]; simp only []
  obtain ⟨x, i1, k1, e1, _, _, g1⟩ := l1Below_eq b hb i0 k0 g0 14
  rw [e1, Option.bind_some]; simp only []
  have hl := hs.1
  by_cases h0 : x = 0
  · rw [if_pos h0]
    obtain ⟨r, i2, k2, e2, g2⟩ := l4Raw_eq b hb i1 k1 g1
    rw [e2, Option.bind_some]
    exact ⟨r, A, i2, k2, rfl, ⟨by omega, hs.2⟩, g2⟩
  · rw [if_neg h0]
    by_cases h1 : x = 1
    · rw [if_pos h1, if_pos (by omega)]
      refine ⟨n, _, i1, k1, rfl, ⟨by rw [List.length_append, List.length_singleton]; omega, fun r hr => ?_⟩, g1⟩
      rcases List.mem_append.1 hr with e | e
      · exact hs.2 r e
      · rw [List.mem_singleton.1 e]; simp
    · rw [if_neg h1]
      by_cases h2 : x = 2
      · rw [if_pos h2]
        obtain ⟨u, i2, k2, e2, _, _, g2⟩ := l1Below_eq b hb i1 k1 g1 7
        rw [e2, Option.bind_some]; simp only []
        obtain ⟨v, i3, k3, e3, _, _, g3⟩ := l1Below_eq b hb i2 k2 g2 7
        rw [e3, Option.bind_some, if_pos (by omega)]
        refine ⟨n, _, i3, k3, rfl, ⟨by rw [List.length_append, List.length_singleton]; omega, fun r hr => ?_⟩, g3⟩
        rcases List.mem_append.1 hr with e | e
        · exact hs.2 r e
        · rw [List.mem_singleton.1 e]; simp
      · rw [if_neg h2]
        exact ⟨n, A, i1, k1, rfl, ⟨by omega, hs.2⟩, g1⟩
theorem l4Set_l (b : List Int) (hb : b.length ≤ 1048576) (n : Int) (A : List (List Int)) : ∀ (d k i : Nat) (S : List Int) (c h : Int), i + d = 12 → S.length ≤ i → Cur b c → d < k → ∃ S' c' h', spec_l4Set.l0 k S i b c h n A = some (S', c', h') ∧ S'.length ≤ 12 ∧ Cur b c' := by
  have hmin : ∃ t, spec_Min.f 12 n = some t ∧ t ≤ 12 := by
    unfold spec_Min.f
    split
    · exact ⟨_, rfl, by omega⟩
    · exact ⟨_, rfl, by omega⟩
  obtain ⟨t, ht, ht2⟩ := hmin
  intro d
  induction d with
  | zero =>
    intro k i S c h hd hS hc hk
    obtain ⟨k, rfl⟩ := rounds_succ hk
    simp only [spec_l4Set.l0]; rw [ht, Option.bind_some, if_neg (by omega)]
    exact ⟨S, c, h, rfl, by omega, hc⟩
  | succ d ih =>
    intro k i S c h hd hS hc hk
    obtain ⟨k, rfl⟩ := rounds_succ hk
    simp only [spec_l4Set.l0]; rw [ht, Option.bind_some]
    by_cases hi : (i : Int) < t
    · rw [if_pos hi]
      obtain ⟨x, i1, k1, e1, g3⟩ := l1Once_eq b hb c h hc 3
      rw [e1, Option.bind_some]; simp only []
      rw [wrs (by omega)]
      cases x with
      | true =>
        rw [if_pos rfl, if_pos (by omega)]
        exact ih k (i + 1) _ i1 k1 (by omega) (by rw [List.length_append, List.length_singleton]; omega) g3 (by omega)
      | false =>
        rw [if_neg (by simp)]
        exact ih k (i + 1) _ i1 k1 (by omega) (by omega) g3 (by omega)
    · rw [if_neg hi]
      exact ⟨S, c, h, rfl, by omega, hc⟩
theorem dHit (b : List Int) (hb : b.length ≤ 1048576) (k : Nat) (hk : b.length + 7100 < k) : ∃ n A S, spec_DrawHitBy.f k b = some (n, A, S) ∧ Sm 11 A ∧ S.length ≤ 12 := by
  unfold spec_DrawHitBy.f
  obtain ⟨h0, e0⟩ := l1New_eq b hb k (by omega)
  have c0 : Cur b 0 := by unfold Cur; omega
  rw [e0, Option.bind_some]; simp only []
  obtain ⟨n, A, i1, k1, e1, hs, g1⟩ := l4Any_eq b hb 0 h0 c0 k (by omega)
  rw [e1, Option.bind_some]; simp only []
  unfold spec_l4Set.f
  obtain ⟨S, i2, k2, e2, hS, g2⟩ := l4Set_l b hb n A 12 k 0 [] i1 k1 (by omega) (by simp) g1 (by omega)
  rw [show (0 : Int) = ((0 : Nat) : Int) from rfl, e2, Option.bind_some]
  exact ⟨n, A, S, rfl, hs, hS⟩
theorem dSet (b : List Int) (hb : b.length ≤ 1048576) (k : Nat) (hk : b.length + 7100 < k) : ∃ n A S, spec_DrawIsSet.f k b = some (n, A, S) ∧ Sm 11 A ∧ S.length ≤ 13 := by
  unfold spec_DrawIsSet.f
  obtain ⟨n, A, S, e, hs, hS⟩ := dHit b hb k hk
  rw [e, Option.bind_some]; simp only []
  obtain ⟨h0, e0⟩ := l1New_eq b hb k (by omega)
  have c0 : Cur b 0 := by unfold Cur; omega
  rw [e0, Option.bind_some]; simp only []
  obtain ⟨x, i1, k1, e1, g3⟩ := l1Once_eq b hb 0 h0 c0 8
  rw [e1, Option.bind_some]; simp only []
  cases x with
  | true =>
    rw [if_pos rfl]
    obtain ⟨u, i2, k2, e2, _, _, g2⟩ := l1Below_eq b hb i1 k1 g3 8
    rw [e2, Option.bind_some]; simp only []
    rw [if_pos (by omega)]
    exact ⟨n, A, _, rfl, hs, by rw [List.length_append, List.length_singleton]; omega⟩
  | false =>
    rw [if_neg (by simp)]
    exact ⟨n, A, S, rfl, hs, by omega⟩
theorem impl_InRange_eq (a b c : Int) : impl_InRange.f a b c = some (decide (b ≤ a ∧ a ≤ c)) := by
  unfold impl_InRange.f; by_cases h : b ≤ a <;> simp [h]
theorem cmpi_eq (a b : Int) : cmp_Compare_int.f a b = some (if a < b then -1 else if a > b then 1 else 0) := by
  unfold cmp_Compare_int.f cmp_isNaN_int.f
  simp only [Option.bind_some, bne_self_eq_false, Bool.false_eq_true, if_false]
  split
  · rfl
  · split <;> rfl
theorem cmp2_eq (p q : List Int) (hp : p.length = 2) (hq : q.length = 2) (k : Nat) (hk : 3 < k) : ∃ t, slices_Compare_int_int.f k p q = some t ∧ (t ≥ 0 ↔ lexlt p q = false) := by
  obtain ⟨k, rfl⟩ : ∃ m, k = m + 3 := ⟨k - 3, by omega⟩
  have l1 : lexlt p q = decide (rd p 0 < rd q 0 ∨ (rd p 0 = rd q 0 ∧ rd p 1 < rd q 1)) := rfl
  rw [l1]
  unfold slices_Compare_int_int.f
  rw [slices_Compare_int_int.l0, if_pos (by omega), if_pos (by omega), if_pos (by omega), if_neg (by omega), if_pos (by omega), cmpi_eq, Option.bind_some]
  by_cases h1 : rd p 0 < rd q 0
  · rw [if_pos h1, if_neg (by omega)]; exact ⟨-1, rfl, by simp [h1]⟩
  · rw [if_neg h1]
    by_cases h2 : rd p 0 > rd q 0
    · rw [if_pos h2, if_neg (by omega)]; exact ⟨1, rfl, by simp; omega⟩
    · rw [if_neg h2, if_pos rfl, show wrap64 ((0 : Int) + 1) = 1 from wr (by omega) (by omega)]
      rw [slices_Compare_int_int.l0, if_pos (by omega), if_pos (by omega), if_pos (by omega), if_neg (by omega), if_pos (by omega), cmpi_eq, Option.bind_some]
      by_cases h3 : rd p 1 < rd q 1
      · rw [if_pos h3, if_neg (by omega)]; exact ⟨-1, rfl, by simp [h3]; omega⟩
      · rw [if_neg h3]
        by_cases h4 : rd p 1 > rd q 1
        · rw [if_pos h4, if_neg (by omega)]; exact ⟨1, rfl, by simp; omega⟩
        · rw [if_neg h4, if_pos rfl, show wrap64 ((1 : Int) + 1) = 2 from wr (by omega) (by omega)]
          rw [slices_Compare_int_int.l0, if_neg (by omega), if_neg (by omega)]
          exact ⟨0, rfl, by simp; omega⟩
theorem impl_isClaim_eq (n : Int) (A : List (List Int)) (c : Int) (h : 0 ≤ n ∧ n ≤ 10) : impl_isClaim.f n A c = some (decide (0 ≤ c ∧ c ≤ n - 1)) := by
  unfold impl_isClaim.f
  rw [wr (i := n - 1) (by omega) (by omega), impl_InRange_eq, Option.bind_some]
theorem impl_IsGraph_l (n : Int) (A : List (List Int)) (hA : A.length ≤ 1048576) (hn : 0 ≤ n ∧ n ≤ 10) : ∀ (d k i : Nat), i + d = A.length → (∀ j, j < i → (rd_L1 A (j : Int)).length = 2) → d + 4 < k →
    impl_IsGraph.l0 k A (A.length : Int) i n A = some (gl (n - 1) (prevOf A i) (A.drop i)) := by
  intro d
  induction d with
  | zero =>
    intro k i hd hp hk
    obtain ⟨k, rfl⟩ := rounds_succ hk
    simp only [impl_IsGraph.l0]; rw [if_neg (by omega), List.drop_eq_nil_of_le (by omega)]
    simp [gl]
  | succ d ih =>
    intro k i hd hp hk
    obtain ⟨k, rfl⟩ := rounds_succ hk
    simp only [impl_IsGraph.l0]; rw [if_pos (by omega), if_pos (by omega), if_pos (by omega), rdL_drop A i (by omega)]
    simp only [gl]
    generalize hq : rd_L1 A (i : Int) = p
    by_cases h2 : p.length = 2
    · rw [if_pos (by omega), if_pos (by omega), impl_isClaim_eq n A _ hn, Option.bind_some]
      by_cases h3 : 0 ≤ rd p 0 ∧ rd p 0 ≤ n - 1
      · rw [if_pos (by simp only [h3, and_self, decide_true]), if_pos (by omega), impl_isClaim_eq n A _ hn, Option.bind_some]
        by_cases h4 : 0 ≤ rd p 1 ∧ rd p 1 ≤ n - 1
        · have hok : okE (n - 1) p = true := by unfold okE; simp only [h2, h3, h4, and_self, decide_true]
          have hnext := ih k (i + 1) (by omega) (fun j hj => by
            by_cases e : j = i
            · rw [e, hq]; exact h2
            · exact hp j (by omega)) (by omega)
          rw [prevOf_succ, hq] at hnext
          rw [if_pos (by simp only [h4, and_self, decide_true])]
          simp only [hok, Bool.true_and]
          by_cases hi : i = 0
          · subst hi
            rw [if_neg (by omega)]
            rw [show wrap64 (((0 : Nat) : Int) + 1) = ((0 + 1 : Nat) : Int) from wrs (by omega), hnext]
            simp [prevOf]
          · have e1 : prevOf A i = some (rd_L1 A ((i - 1 : Nat) : Int)) := by unfold prevOf; rw [if_neg hi]
            have hl := hp (i - 1) (by omega)
            rw [e1]
            rw [if_pos (by omega), show wrap64 ((i : Int) - 1) = ((i - 1 : Nat) : Int) by rw [wr (by omega) (by omega)]; omega]
            generalize rd_L1 A ((i - 1 : Nat) : Int) = q at hl ⊢
            rw [if_pos (by omega), if_pos (by omega)]
            obtain ⟨t, ht, htt⟩ := cmp2_eq q p hl h2 k (by omega)
            rw [ht, Option.bind_some, wrs (by omega), hnext]
            by_cases h5 : t ≥ 0
            · rw [if_pos h5]; simp [htt.1 h5]
            · rw [if_neg h5]
              have : lexlt q p = true := by
                cases e : lexlt q p with
                | true => rfl
                | false => exact absurd (htt.2 e) h5
              simp [this]
        · have hok : okE (n - 1) p = false := by unfold okE; simp only [decide_eq_false_iff_not]; omega
          rw [if_neg (by simp only [decide_eq_true_eq]; omega)]; simp [hok]
      · have hok : okE (n - 1) p = false := by unfold okE; simp only [decide_eq_false_iff_not]; omega
        rw [if_neg (by simp only [decide_eq_true_eq]; omega)]; simp [hok]
    · have hok : okE (n - 1) p = false := by unfold okE; simp [h2]
      rw [if_neg (by omega)]; simp [hok]
theorem impl_IsGraph_eq (n : Int) (A : List (List Int)) (hA : A.length ≤ 1048576) (k : Nat) (hk : A.length + 4 < k) : impl_IsGraph.f k n A = some (isG n A) := by
  unfold impl_IsGraph.f isG
  rw [impl_InRange_eq, Option.bind_some]
  by_cases h : 0 ≤ n ∧ n ≤ 10
  · rw [if_pos (by simp [h])]
    have := impl_IsGraph_l n A hA h A.length k 0 (by omega) (fun j hj => by omega) hk
    rw [show ((0 : Nat) : Int) = 0 from rfl] at this
    rw [this]
    simp [h, prevOf]
  · rw [if_neg (by simp only [decide_eq_true_eq]; exact h)]; simp [h]
def cl (n : Int) : List Int := (List.range n.toNat).map fun (i : Nat) => (i : Int)
def hitb (A : List (List Int)) (S : List Int) (k : Int) : Bool := A.any fun p => rd p 1 == k && S.contains (rd p 0)
def hit (A : List (List Int)) (n : Int) (S : List Int) : List Int := (cl n).filter (hitb A S)
def defb (A : List (List Int)) (S : List Int) (c : Int) : Bool := A.all fun p => !(rd p 1 == c) || hitb A S (rd p 0)
def dby (A : List (List Int)) (n : Int) (S : List Int) : List Int := (cl n).filter (defb A S)
theorem mem_cl (n k : Int) : k ∈ cl n ↔ 0 ≤ k ∧ k < n := by
  unfold cl; simp only [List.mem_map, List.mem_range]
  constructor
  · rintro ⟨i, hi, rfl⟩; omega
  · rintro ⟨h0, h1⟩; exact ⟨k.toNat, by omega, by omega⟩
theorem cl_length (n : Int) : (cl n).length = n.toNat := by simp [cl]
theorem cl_sorted (n : Int) : (cl n).Pairwise (· < ·) := by
  unfold cl; rw [List.pairwise_map]
  exact List.pairwise_lt_range.imp (fun h => by omega)
theorem hitb_iff (A : List (List Int)) (S : List Int) (k : Int) : hitb A S k = true ↔ ∃ p ∈ A, rd p 1 = k ∧ rd p 0 ∈ S := by
  unfold hitb; simp
theorem defb_iff (A : List (List Int)) (S : List Int) (c : Int) : defb A S c = true ↔ ∀ p ∈ A, rd p 1 = c → hitb A S (rd p 0) = true := by
  unfold defb; simp only [List.all_eq_true, Bool.or_eq_true, Bool.not_eq_true', beq_eq_false_iff_ne]
  constructor
  · intro h p hp e; rcases h p hp with h | h
    · exact absurd e h
    · exact h
  · intro h p hp; by_cases e : rd p 1 = c
    · exact .inr (h p hp e)
    · exact .inl e
theorem hitb_mono {A : List (List Int)} {S T : List Int} (h : ∀ x ∈ S, x ∈ T) (k : Int) (hk : hitb A S k = true) : hitb A T k = true := by
  rw [hitb_iff] at *
  obtain ⟨p, hp, e, hs⟩ := hk
  exact ⟨p, hp, e, h _ hs⟩
theorem defb_mono {A : List (List Int)} {S T : List Int} (h : ∀ x ∈ S, x ∈ T) (k : Int) (hk : defb A S k = true) : defb A T k = true := by
  rw [defb_iff] at *
  exact fun p hp e => hitb_mono h _ (hk p hp e)
theorem dby_mono {A : List (List Int)} {n : Int} {S T : List Int} (h : ∀ x ∈ S, x ∈ T) : ∀ x ∈ dby A n S, x ∈ dby A n T := by
  intro x hx
  unfold dby at *
  rw [List.mem_filter] at *
  exact ⟨hx.1, defb_mono h _ hx.2⟩
theorem dby_sub (A : List (List Int)) (n : Int) {S T : List Int} (h : ∀ x ∈ S, x ∈ T) : (dby A n S).Sublist (dby A n T) := by
  unfold dby
  have : (cl n).filter (defb A S) = ((cl n).filter (defb A T)).filter (defb A S) := by
    rw [List.filter_filter]
    refine List.filter_congr fun x _ => ?_
    cases e : defb A S x with
    | false => rfl
    | true => simp [defb_mono h x e]
  rw [this]
  exact List.filter_sublist
def ite_d (A : List (List Int)) (n : Int) : Nat → List Int
  | 0 => []
  | m + 1 => dby A n (ite_d A n m)
theorem ite_up (A : List (List Int)) (n : Int) (m : Nat) : ∀ x ∈ ite_d A n m, x ∈ ite_d A n (m + 1) := by
  induction m with
  | zero => intro x hx; cases hx
  | succ m ih => exact dby_mono ih
theorem ite_sub (A : List (List Int)) (n : Int) (m : Nat) : (ite_d A n m).Sublist (ite_d A n (m + 1)) := by
  cases m with
  | zero => exact List.nil_sublist _
  | succ m => exact dby_sub A n (ite_up A n m)
theorem ite_le (A : List (List Int)) (n : Int) (m : Nat) : (ite_d A n m).length ≤ n.toNat := by
  cases m with
  | zero => exact Nat.zero_le _
  | succ m => rw [← cl_length n]; exact (List.filter_sublist).length_le
theorem ite_grow (A : List (List Int)) (n : Int) (m : Nat) : (∃ j, j < m ∧ ite_d A n (j + 1) = ite_d A n j) ∨ m ≤ (ite_d A n m).length := by
  induction m with
  | zero => exact .inr (Nat.zero_le _)
  | succ m ih =>
    rcases ih with ⟨j, hj, e⟩ | h
    · exact .inl ⟨j, by omega, e⟩
    · by_cases e : ite_d A n (m + 1) = ite_d A n m
      · exact .inl ⟨m, by omega, e⟩
      · refine .inr ?_
        have hs := ite_sub A n m
        have := hs.length_le
        have hne : (ite_d A n m).length ≠ (ite_d A n (m + 1)).length := fun h => e (hs.eq_of_length h).symm
        omega
theorem ite_stop (A : List (List Int)) (n : Int) : ∃ j, j ≤ n.toNat ∧ ite_d A n (j + 1) = ite_d A n j := by
  rcases ite_grow A n (n.toNat + 1) with ⟨j, hj, e⟩ | h
  · exact ⟨j, by omega, e⟩
  · have := ite_le A n (n.toNat + 1); omega
theorem ite_least (A : List (List Int)) (n : Int) : ∃ m, m ≤ n.toNat ∧ ite_d A n (m + 1) = ite_d A n m ∧ ∀ j, j < m → ite_d A n (j + 1) ≠ ite_d A n j := by
  obtain ⟨j, hj, e⟩ := ite_stop A n
  induction j using Nat.strongRecOn with
  | ind j ih =>
    by_cases h : ∃ i, i < j ∧ ite_d A n (i + 1) = ite_d A n i
    · obtain ⟨i, hi, ei⟩ := h
      exact ih i hi (by omega) ei
    · exact ⟨j, hj, e, fun i hi ei => h ⟨i, hi, ei⟩⟩
theorem ite_const (A : List (List Int)) (n : Int) (m : Nat) (e : ite_d A n (m + 1) = ite_d A n m) : ∀ d, ite_d A n (m + d) = ite_d A n m := by
  intro d
  induction d with
  | zero => rfl
  | succ d ih => rw [show m + (d + 1) = (m + d) + 1 by omega, ite_d, ih]; exact e
theorem ite_mono (A : List (List Int)) (n : Int) (m d : Nat) : ∀ x ∈ ite_d A n m, x ∈ ite_d A n (m + d) := by
  induction d with
  | zero => exact fun x h => h
  | succ d ih => exact fun x h => ite_up A n (m + d) x (ih x h)
def Free (A : List (List Int)) (S : List Int) : Prop := ∀ s ∈ S, hitb A S s = false
theorem free_dby {A : List (List Int)} {n : Int} {S : List Int} (hf : Free A S) : Free A (dby A n S) := by
  intro b hb
  cases e : hitb A (dby A n S) b with
  | false => rfl
  | true =>
    rw [hitb_iff] at e
    obtain ⟨p, hp, e1, ha⟩ := e
    have hb' := (List.mem_filter.1 hb).2
    rw [defb_iff] at hb'
    have h1 := hb' p hp e1
    rw [hitb_iff] at h1
    obtain ⟨q, hq, e2, hsq⟩ := h1
    have ha' := (List.mem_filter.1 ha).2
    rw [defb_iff] at ha'
    have h2 := ha' q hq e2
    have := hf _ hsq
    rw [h2] at this; cases this
theorem ite_free (A : List (List Int)) (n : Int) (m : Nat) : Free A (ite_d A n m) := by
  induction m with
  | zero => intro s hs; cases hs
  | succ m ih => exact free_dby ih
theorem ite_in (A : List (List Int)) (n : Int) (S : List Int) (h : ∀ x ∈ dby A n S, x ∈ S) (m : Nat) : ∀ x ∈ ite_d A n m, x ∈ S := by
  induction m with
  | zero => intro x hx; cases hx
  | succ m ih => exact fun x hx => h x (dby_mono ih x hx)
def vicA (A : List (List Int)) (c : Int) : List Int := (A.filter fun p => rd p 0 == c).map fun p => rd p 1
def attA (A : List (List Int)) (c : Int) : List Int := (A.filter fun p => rd p 1 == c).map fun p => rd p 0
def vic (n : Int) (A : List (List Int)) (c : Int) : List Int := if isG n A = true then vicA A c else []
def att (n : Int) (A : List (List Int)) (c : Int) : List Int := if isG n A = true then attA A c else []
theorem vicA_len (A : List (List Int)) (c : Int) : (vicA A c).length ≤ A.length := by unfold vicA; rw [List.length_map]; exact List.length_filter_le _ _
theorem attA_len (A : List (List Int)) (c : Int) : (attA A c).length ≤ A.length := by unfold attA; rw [List.length_map]; exact List.length_filter_le _ _
theorem vic_len (n : Int) (A : List (List Int)) (c : Int) : (vic n A c).length ≤ A.length := by unfold vic; split; exact vicA_len A c; simp
theorem att_len (n : Int) (A : List (List Int)) (c : Int) : (att n A c).length ≤ A.length := by unfold att; split; exact attA_len A c; simp
theorem isG_len2 {n : Int} {A : List (List Int)} (h : isG n A = true) (i : Nat) (hi : i < A.length) : (rd_L1 A (i : Int)).length = 2 := ((isG_ok h).2 _ (rdL_mem A i hi)).1
def hitG (n : Int) (A : List (List Int)) (S : List Int) : List Int := if isG n A = true then hit A n S else []
theorem hit_sorted (A : List (List Int)) (n : Int) (S : List Int) : (hit A n S).Pairwise (· < ·) := (cl_sorted n).sublist List.filter_sublist
theorem hit_len (A : List (List Int)) (n : Int) (S : List Int) : (hit A n S).length ≤ n.toNat := by
  unfold hit; have := List.length_filter_le (hitb A S) (cl n); rwa [cl_length] at this
theorem hitG_len (n : Int) (A : List (List Int)) (S : List Int) : (hitG n A S).length ≤ 10 := by
  unfold hitG
  split
  · rename_i h; have := hit_len A n S; have := (isG_ok h).1; omega
  · simp
theorem mem_hit {A : List (List Int)} {n : Int} {S : List Int} (h : isG n A = true) (k : Int) : k ∈ hit A n S ↔ hitb A S k = true := by
  unfold hit
  rw [List.mem_filter, mem_cl]
  constructor
  · exact fun h => h.2
  · intro hb
    refine ⟨?_, hb⟩
    obtain ⟨p, hp, e, _⟩ := (hitb_iff A S k).1 hb
    have := ((isG_ok h).2 p hp).2.2
    omega
def sl (w : Int) : Option Int → List Int → Bool
  | _, [] => true
  | prev, c :: R => decide (0 ≤ c ∧ c ≤ w) && (match prev with | none => true | some q => decide (q < c)) && sl w (some c) R
def isS (n : Int) (A : List (List Int)) (S : List Int) : Bool := isG n A && sl (n - 1) none S
def prevS (S : List Int) (i : Nat) : Option Int := if i = 0 then none else some (rd S ((i - 1 : Nat) : Int))
theorem prevS_succ (S : List Int) (i : Nat) : prevS S (i + 1) = some (rd S (i : Int)) := by unfold prevS; rw [if_neg (by omega)]; rfl
theorem drop_rdS (l : List Int) (i : Nat) (h : i < l.length) : l.drop i = rd l i :: l.drop (i + 1) := by rw [rd_nat l i h]; exact List.drop_eq_getElem_cons h
theorem sl_in (w : Int) (R : List Int) : ∀ prev, sl w prev R = true → ∀ c ∈ R, 0 ≤ c ∧ c ≤ w := by
  induction R with
  | nil => intro prev _ p hp; cases hp
  | cons q R ih =>
    intro prev h p hp
    simp only [sl, Bool.and_eq_true, decide_eq_true_eq] at h
    rcases List.mem_cons.1 hp with e | e
    · rw [e]; exact h.1.1
    · exact ih _ h.2 p e
theorem sl_sorted (w : Int) (R : List Int) : ∀ prev, sl w prev R = true → R.Pairwise (· < ·) ∧ ∀ q, prev = some q → ∀ c ∈ R, q < c := by
  induction R with
  | nil => intro prev _; exact ⟨List.Pairwise.nil, fun q _ c hc => by cases hc⟩
  | cons x R ih =>
    intro prev h
    simp only [sl, Bool.and_eq_true, decide_eq_true_eq] at h
    obtain ⟨h1, h2⟩ := ih _ h.2
    have hx := h2 x rfl
    refine ⟨List.pairwise_cons.2 ⟨hx, h1⟩, fun q hq c hc => ?_⟩
    subst hq
    have hqx : q < x := by simpa using h.1.2
    rcases List.mem_cons.1 hc with e | e
    · rw [e]; exact hqx
    · have := hx c e; omega
theorem isS_ok {n : Int} {A : List (List Int)} {S : List Int} (h : isS n A S = true) : isG n A = true ∧ (∀ c ∈ S, 0 ≤ c ∧ c < n) ∧ S.Pairwise (· < ·) := by
  unfold isS at h
  rw [Bool.and_eq_true] at h
  refine ⟨h.1, fun c hc => ?_, (sl_sorted _ _ _ h.2).1⟩
  have := sl_in _ _ _ h.2 c hc
  omega
def freeb (n : Int) (A : List (List Int)) (S : List Int) : Bool := isS n A S && S.all fun c => !decide (c ∈ hitG n A S)
theorem rd_drop (S : List Int) (i : Nat) (h : i < S.length) : S.drop i = rd S i :: S.drop (i + 1) := by rw [rd_nat S i h]; exact List.drop_eq_getElem_cons _
def defends (n : Int) (A : List (List Int)) (S : List Int) (c : Int) : Bool := isS n A S && (decide (0 ≤ c ∧ c ≤ n - 1) && (att n A c).all fun a => decide (a ∈ hitG n A S))
def dbyG (n : Int) (A : List (List Int)) (S : List Int) : List Int := if isS n A S = true then (cl n).filter (defends n A S) else []
theorem clx_at (n : Int) (i : Nat) (hi : (i : Int) < n) : (cl n).drop i = (i : Int) :: (cl n).drop (i + 1) := by
  have hl : i < (cl n).length := by rw [cl_length]; omega
  rw [List.drop_eq_getElem_cons hl]
  congr 1
  simp [cl]
theorem dbyG_len (n : Int) (A : List (List Int)) (S : List Int) : (dbyG n A S).length ≤ 10 := by
  unfold dbyG
  split
  · rename_i h
    have := (isG_ok (isS_ok h).1).1
    have h2 := List.length_filter_le (defends n A S) (cl n)
    rw [cl_length] at h2; omega
  · simp
theorem impl_IsSet_l (n : Int) (A : List (List Int)) (S : List Int) (hS : S.length ≤ 1048576) (hn : 0 ≤ n ∧ n ≤ 10) : ∀ (d k i : Nat), i + d = S.length → d < k → impl_IsSet.l0 k S S (S.length : Int) i n A = some (sl (n - 1) (prevS S i) (S.drop i)) := by
  intro d
  induction d with
  | zero =>
    intro k i hd hk
    obtain ⟨k, rfl⟩ := rounds_succ hk
    simp only [impl_IsSet.l0]; rw [if_neg (by omega), List.drop_eq_nil_of_le (by omega)]
    simp [sl]
  | succ d ih =>
    intro k i hd hk
    obtain ⟨k, rfl⟩ := rounds_succ hk
    have hnext := ih k (i + 1) (by omega) (by omega)
    rw [prevS_succ] at hnext
    simp only [impl_IsSet.l0]; rw [if_pos (by omega), if_pos (by omega), if_pos (by omega), impl_isClaim_eq n A _ hn, Option.bind_some, wrs (by omega), hnext, drop_rdS S i (by omega)]
    simp only [sl]
    generalize rd S (i : Int) = c
    by_cases h1 : 0 ≤ c ∧ c ≤ n - 1
    · rw [if_pos (by simp only [h1, and_self, decide_true])]
      simp only [h1, and_self, decide_true, Bool.true_and]
      by_cases hi : i = 0
      · subst hi
        rw [if_neg (by omega)]; simp [prevS]
      · have e1 : prevS S i = some (rd S ((i - 1 : Nat) : Int)) := by unfold prevS; rw [if_neg hi]
        rw [e1, if_pos (by omega), show wrap64 ((i : Int) - 1) = ((i - 1 : Nat) : Int) by rw [wr (by omega) (by omega)]; omega, if_pos (by omega), if_pos (by omega)]
        generalize rd S ((i - 1 : Nat) : Int) = q
        by_cases h2 : c ≤ q
        · rw [if_pos h2]
          have : decide (q < c) = false := by simp; omega
          simp [this]
        · rw [if_neg h2]
          have : decide (q < c) = true := by simp; omega
          simp [this]
    · rw [if_neg (by simp only [h1, decide_false, Bool.false_eq_true, not_false_eq_true])]; simp [h1]
theorem impl_IsSet_eq (n : Int) (A : List (List Int)) (S : List Int) (hA : A.length ≤ 1048576) (hS : S.length ≤ 1048576) (k : Nat) (hk : A.length + S.length + 4 < k) : impl_IsSet.f k n A S = some (isS n A S) := by
  unfold impl_IsSet.f isS
  rw [impl_IsGraph_eq n A hA k (by omega), Option.bind_some]
  by_cases h : isG n A = true
  · have := impl_IsSet_l n A S hS (isG_ok h).1 S.length k 0 (by omega) (by omega)
    rw [show ((0 : Nat) : Int) = 0 from rfl] at this
    rw [if_pos h, this, h]; simp [prevS]
  · rw [if_neg h]; simp [h]
theorem impl_VictimsOf_l (n : Int) (A : List (List Int)) (c : Int) (hA : A.length ≤ 1048576) (hg : isG n A = true) : ∀ (d k i : Nat) (o : List Int), i + d = A.length → o.length ≤ i → d < k → impl_VictimsOf.l0 k c o A (A.length : Int) i = some (o ++ vicA (A.drop i) c) := by
  intro d
  induction d with
  | zero =>
    intro k i o hd ho hk
    obtain ⟨k, rfl⟩ := rounds_succ hk
    simp only [impl_VictimsOf.l0]; rw [if_neg (by omega), List.drop_eq_nil_of_le (by omega)]; simp [vicA]
  | succ d ih =>
    intro k i o hd ho hk
    obtain ⟨k, rfl⟩ := rounds_succ hk
    have h2 := isG_len2 hg i (by omega)
    simp only [impl_VictimsOf.l0]; rw [if_pos (by omega), if_pos (by omega), if_pos (by omega), if_pos (by omega), wrs (by omega), rdL_drop A i (by omega)]
    generalize rd_L1 A (i : Int) = p at h2 ⊢
    by_cases h : rd p 0 = c
    · rw [if_pos h, if_pos (by omega), if_pos (by omega), ih k (i + 1) _ (by omega) (by rw [List.length_append, List.length_singleton]; omega) (by omega)]
      simp [vicA, h]
    · rw [if_neg h, ih k (i + 1) _ (by omega) (by omega) (by omega)]
      simp [vicA, h]
theorem impl_VictimsOf_eq (n : Int) (A : List (List Int)) (c : Int) (hA : A.length ≤ 1048576) (k : Nat) (hk : A.length + 4 < k) : impl_VictimsOf.f k n A c = some (vic n A c) := by
  unfold impl_VictimsOf.f vic
  rw [Option.bind_some, impl_IsGraph_eq n A hA k hk, Option.bind_some]
  by_cases h : isG n A = true
  · rw [if_pos h, if_pos h]
    have := impl_VictimsOf_l n A c hA h A.length k 0 [] (by omega) (by simp) (by omega)
    simpa using this
  · rw [if_neg h, if_neg h]
theorem sorted_ext {a b : List Int} (ha : a.Pairwise (· < ·)) (hb : b.Pairwise (· < ·)) (h : ∀ x, x ∈ a ↔ x ∈ b) : a = b := by
  induction a generalizing b with
  | nil =>
    cases b with
    | nil => rfl
    | cons y b => exact absurd ((h y).2 (List.mem_cons_self ..)) (by simp)
  | cons x a ih =>
    cases b with
    | nil => exact absurd ((h x).1 (List.mem_cons_self ..)) (by simp)
    | cons y b =>
      rw [List.pairwise_cons] at ha hb
      have hxy : x = y := by
        rcases List.mem_cons.1 ((h x).1 (List.mem_cons_self ..)) with e | e
        · exact e
        · rcases List.mem_cons.1 ((h y).2 (List.mem_cons_self ..)) with e' | e'
          · exact e'.symm
          · have := hb.1 x e; have := ha.1 y e'; omega
      subst hxy
      congr 1
      refine ih ha.2 hb.2 fun z => ?_
      constructor
      · intro hz
        rcases List.mem_cons.1 ((h z).1 (List.mem_cons_of_mem _ hz)) with e | e
        · subst e; exact absurd (ha.1 z hz) (by omega)
        · exact e
      · intro hz
        rcases List.mem_cons.1 ((h z).2 (List.mem_cons_of_mem _ hz)) with e | e
        · subst e; exact absurd (hb.1 z hz) (by omega)
        · exact e
theorem mono_at {l : List Int} (h : l.Pairwise (· ≤ ·)) {i j : Nat} (hij : i ≤ j) (hj : j < l.length) : l.toArray[i]! ≤ l.toArray[j]! := by
  have hi : i < l.length := by omega
  simp only [List.getElem!_toArray, List.getElem!_eq_getElem?_getD, List.getElem?_eq_getElem hi, List.getElem?_eq_getElem hj, Option.getD_some]
  rcases Nat.lt_or_ge i j with h1 | h1
  · exact List.pairwise_iff_getElem.1 h i j hi hj h1
  · have : i = j := by omega
    subst this; exact Int.le_refl _
theorem compact_at {l : List Int} (h : l.Pairwise (· ≤ ·)) : ∀ m, m ≤ l.length → (Go.Lib.compactUpTo l.toArray m).Pairwise (· < ·) ∧ (∀ x, x ∈ Go.Lib.compactUpTo l.toArray m ↔ ∃ j, j < m ∧ l.toArray[j]! = x) := by
  intro m
  induction m with
  | zero => intro _; exact ⟨by simp [Go.Lib.compactUpTo], fun x => by simp [Go.Lib.compactUpTo]⟩
  | succ m ih =>
    intro hm
    obtain ⟨h1, h2⟩ := ih (by omega)
    rw [Go.Lib.compactUpTo_succ]
    by_cases hk : Go.Lib.keeps l.toArray m = true
    · rw [if_pos hk]
      have hne : m = 0 ∨ l.toArray[m]! ≠ l.toArray[m - 1]! := by simpa [Go.Lib.keeps] using hk
      refine ⟨?_, fun x => ?_⟩
      · rw [List.pairwise_append]
        refine ⟨h1, List.pairwise_singleton _ _, fun a ha b hb => ?_⟩
        rw [List.mem_singleton] at hb
        subst hb
        obtain ⟨j, hj, rfl⟩ := (h2 a).1 ha
        have e1 := mono_at h (show j ≤ m - 1 by omega) (by omega)
        have e2 := mono_at h (show m - 1 ≤ m by omega) (by omega)
        rcases hne with h0 | h0
        · omega
        · have : l.toArray[m - 1]! ≠ l.toArray[m]! := fun e => h0 e.symm
          omega
      · rw [List.mem_append, h2, List.mem_singleton]
        constructor
        · rintro (⟨j, hj, e⟩ | e)
          · exact ⟨j, by omega, e⟩
          · exact ⟨m, by omega, e.symm⟩
        · rintro ⟨j, hj, e⟩
          by_cases hjm : j = m
          · subst hjm; exact .inr e.symm
          · exact .inl ⟨j, by omega, e⟩
    · rw [if_neg hk, List.append_nil]
      have hne : m ≠ 0 ∧ l.toArray[m]! = l.toArray[m - 1]! := by
        have : ¬ (m = 0 ∨ l.toArray[m]! ≠ l.toArray[m - 1]!) := by simpa [Go.Lib.keeps] using hk
        exact ⟨fun e => this (.inl e), Decidable.byContradiction fun e => this (.inr e)⟩
      refine ⟨h1, fun x => ?_⟩
      rw [h2]
      constructor
      · rintro ⟨j, hj, e⟩; exact ⟨j, by omega, e⟩
      · rintro ⟨j, hj, e⟩
        by_cases hjm : j = m
        · subst hjm; exact ⟨j - 1, by omega, by rw [← hne.2]; exact e⟩
        · exact ⟨j, by omega, e⟩
theorem sortedc (l : List Int) : (l.mergeSort fun x y => decide (x ≤ y)).Pairwise (· ≤ ·) := by
  have := List.pairwise_mergeSort (le := fun x y : Int => decide (x ≤ y)) (fun a b c h1 h2 => by simp at *; omega) (fun a b => by simp; omega) l
  exact this.imp (fun h => by simpa using h)
theorem compact_sorted (l : List Int) : (Go.Lib.compact (l.mergeSort fun x y => decide (x ≤ y))).Pairwise (· < ·) ∧ ∀ x, x ∈ Go.Lib.compact (l.mergeSort fun x y => decide (x ≤ y)) ↔ x ∈ l := by
  have h := compact_at (sortedc l) _ (Nat.le_refl _)
  refine ⟨h.1, fun x => ?_⟩
  unfold Go.Lib.compact
  rw [h.2, ← List.mem_mergeSort (le := fun x y => decide (x ≤ y))]
  generalize (l.mergeSort fun x y => decide (x ≤ y)) = q
  rw [List.mem_iff_getElem]
  constructor
  · rintro ⟨j, hj, e⟩
    exact ⟨j, hj, by simpa [List.getElem!_eq_getElem?_getD, List.getElem?_eq_getElem hj] using e⟩
  · rintro ⟨j, hj, e⟩
    exact ⟨j, hj, by simpa [List.getElem!_eq_getElem?_getD, List.getElem?_eq_getElem hj] using e⟩
theorem flat_len (n : Int) (A : List (List Int)) (S : List Int) : (S.flatMap (vic n A)).length ≤ S.length * A.length := by
  induction S with
  | nil => simp
  | cons s S ih =>
    rw [List.flatMap_cons, List.length_append, List.length_cons, Nat.succ_mul]
    have := vic_len n A s
    omega
theorem impl_HitBy_l (n : Int) (A : List (List Int)) (S : List Int) (hA : A.length ≤ 1048576) (hS : S.length ≤ 1048576) : ∀ (d k i : Nat) (o : List Int), i + d = S.length → o.length ≤ i * 1048576 → d + A.length + 5 < k → impl_HitBy.l0 k n A o S (S.length : Int) i = some (o ++ (S.drop i).flatMap (vic n A)) := by
  intro d
  induction d with
  | zero =>
    intro k i o hd ho hk
    obtain ⟨k, rfl⟩ := rounds_succ hk
    simp only [impl_HitBy.l0]; rw [if_neg (by omega), List.drop_eq_nil_of_le (by omega)]; simp
  | succ d ih =>
    intro k i o hd ho hk
    obtain ⟨k, rfl⟩ := rounds_succ hk
    have hv := vic_len n A (rd S (i : Int))
    simp only [impl_HitBy.l0]; rw [if_pos (by omega), if_pos (by omega), if_pos (by omega), impl_VictimsOf_eq n A _ hA k (by omega), Option.bind_some, if_pos (by omega), wrs (by omega), ih k (i + 1) _ (by omega) (by rw [List.length_append]; omega) (by omega)]
    have e : S.drop i = rd S i :: S.drop (i + 1) := by rw [rd_nat S i (by omega)]; exact List.drop_eq_getElem_cons _
    rw [e, List.flatMap_cons, List.append_assoc]
theorem impl_HitBy_eq (n : Int) (A : List (List Int)) (S : List Int) (hA : A.length ≤ 1048576) (hS : S.length ≤ 1048576) (k : Nat) (hk : S.length + A.length + 5 < k) : impl_HitBy.f k n A S = some (hitG n A S) := by
  unfold impl_HitBy.f
  have h := impl_HitBy_l n A S hA hS S.length k 0 [] (by omega) (by simp) (by omega)
  simp only [List.drop_zero, List.nil_append, Int.natCast_zero] at h
  have hl := flat_len n A S
  have hl2 : S.length * A.length ≤ 1048576 * 1048576 := Nat.mul_le_mul hS hA
  rw [h, Option.bind_some, if_pos (by omega)]
  congr 1
  unfold hitG Go.Proofs.YtelkfhlnejlheaaW.Sorts.sorted
  obtain ⟨c1, c2⟩ := compact_sorted (S.flatMap (vic n A))
  by_cases hg : isG n A = true
  · rw [if_pos hg]
    refine sorted_ext c1 (hit_sorted A n S) fun x => ?_
    rw [c2, mem_hit hg, hitb_iff, List.mem_flatMap]
    have hvv : ∀ a, vic n A a = vicA A a := fun a => by unfold vic; rw [if_pos hg]
    simp only [hvv]; unfold vicA
    constructor
    · rintro ⟨s, hs, hx⟩
      obtain ⟨p, hp, e⟩ := List.mem_map.1 hx
      obtain ⟨hp1, hp2⟩ := List.mem_filter.1 hp
      have hp2 := beq_iff_eq.1 hp2
      exact ⟨p, hp1, e, by rw [hp2]; exact hs⟩
    · rintro ⟨p, hp, e, hs⟩
      exact ⟨rd p 0, hs, List.mem_map.2 ⟨p, List.mem_filter.2 ⟨hp, by simp⟩, e⟩⟩
  · rw [if_neg hg]
    have : S.flatMap (vic n A) = [] := by
      rw [List.flatMap_eq_nil_iff]
      intro s _
      unfold vic; rw [if_neg hg]
    rw [this]
    simp [Go.Lib.compact, Go.Lib.compactUpTo]
theorem impl_AttackersOf_l (n : Int) (A : List (List Int)) (c : Int) (hA : A.length ≤ 1048576) (hg : isG n A = true) : ∀ (d k i : Nat) (o : List Int), i + d = A.length → o.length ≤ i → d < k → impl_AttackersOf.l0 k c o A (A.length : Int) i = some (o ++ attA (A.drop i) c) := by
  intro d
  induction d with
  | zero =>
    intro k i o hd ho hk
    obtain ⟨k, rfl⟩ := rounds_succ hk
    simp only [impl_AttackersOf.l0]; rw [if_neg (by omega), List.drop_eq_nil_of_le (by omega)]; simp [attA]
  | succ d ih =>
    intro k i o hd ho hk
    obtain ⟨k, rfl⟩ := rounds_succ hk
    have h2 := isG_len2 hg i (by omega)
    simp only [impl_AttackersOf.l0]; rw [if_pos (by omega), if_pos (by omega), if_pos (by omega), if_pos (by omega), wrs (by omega), rdL_drop A i (by omega)]
    generalize rd_L1 A (i : Int) = p at h2 ⊢
    by_cases h : rd p 1 = c
    · rw [if_pos h, if_pos (by omega), if_pos (by omega), ih k (i + 1) _ (by omega) (by rw [List.length_append, List.length_singleton]; omega) (by omega)]
      simp [attA, h]
    · rw [if_neg h, ih k (i + 1) _ (by omega) (by omega) (by omega)]
      simp [attA, h]
theorem impl_AttackersOf_eq (n : Int) (A : List (List Int)) (c : Int) (hA : A.length ≤ 1048576) (k : Nat) (hk : A.length + 4 < k) : impl_AttackersOf.f k n A c = some (att n A c) := by
  unfold impl_AttackersOf.f att
  rw [Option.bind_some, impl_IsGraph_eq n A hA k hk, Option.bind_some]
  by_cases h : isG n A = true
  · rw [if_pos h, if_pos h]
    have := impl_AttackersOf_l n A c hA h A.length k 0 [] (by omega) (by simp) (by omega)
    simpa using this
  · rw [if_neg h, if_neg h]
theorem idx_l (S : List Int) (c : Int) (hS : S.length ≤ 1099511627776) : ∀ (d k i : Nat), i + d = S.length → d < k → ∃ t, slices_Index_int_int.l0 k S c (S.length : Int) i = some t ∧ (t ≥ 0 ↔ c ∈ S.drop i) := by
  intro d
  induction d with
  | zero =>
    intro k i hd hk
    obtain ⟨k, rfl⟩ := rounds_succ hk
    simp only [slices_Index_int_int.l0]; rw [if_neg (by omega), List.drop_eq_nil_of_le (by omega)]
    exact ⟨-1, rfl, by simp⟩
  | succ d ih =>
    intro k i hd hk
    obtain ⟨k, rfl⟩ := rounds_succ hk
    simp only [slices_Index_int_int.l0]; rw [if_pos (by omega), if_pos (by omega), if_pos (by omega), wrs (by omega)]
    have e : S.drop i = rd S i :: S.drop (i + 1) := by rw [rd_nat S i (by omega)]; exact List.drop_eq_getElem_cons _
    rw [e]
    by_cases h : c = rd S (i : Int)
    · rw [if_pos h]; exact ⟨i, rfl, by simp [← h]⟩
    · rw [if_neg h]
      obtain ⟨t, ht, h2⟩ := ih k (i + 1) (by omega) (by omega)
      exact ⟨t, ht, by rw [h2]; simp [h]⟩
theorem contains_eq (S : List Int) (c : Int) (hS : S.length ≤ 1099511627776) (k : Nat) (hk : S.length < k) : slices_Contains_int_int.f k S c = some (decide (c ∈ S)) := by
  obtain ⟨t, ht, h⟩ := idx_l S c hS S.length k 0 (by omega) hk
  rw [List.drop_zero] at h
  unfold slices_Contains_int_int.f slices_Index_int_int.f
  rw [show (0 : Int) = ((0 : Nat) : Int) from rfl, ht, Option.bind_some]
  simp [← h]
theorem impl_Defends_l (H L : List Int) (hH : H.length ≤ 10) (hL : L.length ≤ 1048576) : ∀ (d k i : Nat), i + d = L.length → d + 20 < k → impl_Defends.l0 k H L (L.length : Int) i = some ((L.drop i).all fun a => decide (a ∈ H)) := by
  intro d
  induction d with
  | zero =>
    intro k i hd hk
    obtain ⟨k, rfl⟩ := rounds_succ hk
    simp only [impl_Defends.l0]; rw [if_neg (by omega), List.drop_eq_nil_of_le (by omega)]; simp
  | succ d ih =>
    intro k i hd hk
    obtain ⟨k, rfl⟩ := rounds_succ hk
    simp only [impl_Defends.l0]; rw [if_pos (by omega), if_pos (by omega), if_pos (by omega), contains_eq H _ (by omega) k (by omega), Option.bind_some, wrs (by omega), ih k (i + 1) (by omega) (by omega), rd_drop L i (by omega), List.all_cons]
    by_cases h : rd L (i : Int) ∈ H
    · rw [if_pos (by simpa using h)]; simp [h]
    · rw [if_neg (by simpa using h)]; simp [h]
theorem impl_Defends_eq (n : Int) (A : List (List Int)) (S : List Int) (c : Int) (hA : A.length ≤ 1048576) (hS : S.length ≤ 1048576) (k : Nat) (hk : A.length + S.length + 60 < k) : impl_Defends.f k n A S c = some (defends n A S c) := by
  obtain ⟨k, rfl⟩ := rounds_succ hk
  unfold impl_Defends.f defends
  rw [impl_IsSet_eq n A S hA hS (k + 1) (by omega), Option.bind_some]
  simp only [impl_Defends.j0]
  by_cases h : isS n A S = true
  · have hn := (isG_ok (isS_ok h).1).1
    have hl := att_len n A c
    rw [if_pos h]
    unfold impl_isClaim.f
    rw [wr (i := n - 1) (by omega) (by omega), impl_InRange_eq, Option.bind_some, Option.bind_some, h, Bool.true_and]
    by_cases h1 : 0 ≤ c ∧ c ≤ n - 1
    · have := impl_Defends_l (hitG n A S) (att n A c) (hitG_len n A S) (by omega) (att n A c).length k 0 (by omega) (by omega)
      simp only [List.drop_zero, Int.natCast_zero] at this
      rw [if_neg (by simp [h1]), impl_HitBy_eq n A S hA hS k (by omega), Option.bind_some, impl_AttackersOf_eq n A c hA k (by omega), Option.bind_some, this]
      simp [h1]
    · have h1b : decide (0 ≤ c ∧ c ≤ n - 1) = false := decide_eq_false h1
      rw [h1b]; simp
  · rw [if_neg h]; simp [h]
theorem impl_DefendedBy_l (n : Int) (A : List (List Int)) (S : List Int) (hA : A.length ≤ 1048576) (hS : S.length ≤ 1048576) (hn : 0 ≤ n ∧ n ≤ 10) : ∀ (d k i : Nat) (o : List Int), i + d = n.toNat → o.length ≤ i → d + A.length + S.length + 70 < k → impl_DefendedBy.l0 k S o n i n A = some (o ++ ((cl n).drop i).filter (defends n A S)) := by
  intro d
  induction d with
  | zero =>
    intro k i o hd ho hk
    obtain ⟨k, rfl⟩ := rounds_succ hk
    simp only [impl_DefendedBy.l0]; rw [if_neg (by omega), List.drop_eq_nil_of_le (by rw [cl_length]; omega)]; simp
  | succ d ih =>
    intro k i o hd ho hk
    obtain ⟨k, rfl⟩ := rounds_succ hk
    simp only [impl_DefendedBy.l0]; rw [if_pos (by omega), impl_Defends_eq n A S _ hA hS k (by omega), Option.bind_some, wrs (by omega), clx_at n i (by omega)]
    by_cases h : defends n A S (i : Int) = true
    · rw [if_pos h, if_pos (by omega), ih k (i + 1) _ (by omega) (by rw [List.length_append, List.length_singleton]; omega) (by omega), List.filter_cons_of_pos h, List.append_assoc]; rfl
    · rw [if_neg h, ih k (i + 1) _ (by omega) (by omega) (by omega), List.filter_cons_of_neg h]
theorem impl_DefendedBy_eq (n : Int) (A : List (List Int)) (S : List Int) (hA : A.length ≤ 1048576) (hS : S.length ≤ 1048576) (k : Nat) (hk : A.length + S.length + 90 < k) : impl_DefendedBy.f k n A S = some (dbyG n A S) := by
  unfold impl_DefendedBy.f dbyG
  rw [Option.bind_some, impl_IsSet_eq n A S hA hS k (by omega), Option.bind_some]
  by_cases hs : isS n A S = true
  · have hn := (isG_ok (isS_ok hs).1).1
    have := impl_DefendedBy_l n A S hA hS hn n.toNat k 0 [] (by omega) (by simp) (by omega)
    rw [if_pos hs, if_pos hs]
    simpa using this
  · rw [if_neg hs, if_neg hs]
theorem impl_IsFree_l (S H : List Int) (hS : S.length ≤ 1048576) (hH : H.length ≤ 10) : ∀ (d k i : Nat), i + d = H.length → d + S.length + 2 < k → impl_IsFree.l0 k S H (H.length : Int) i = some ((H.drop i).all fun c => !decide (c ∈ S)) := by
  intro d
  induction d with
  | zero =>
    intro k i hd hk
    obtain ⟨k, rfl⟩ := rounds_succ hk
    simp only [impl_IsFree.l0]; rw [if_neg (by omega), List.drop_eq_nil_of_le (by omega)]; simp
  | succ d ih =>
    intro k i hd hk
    obtain ⟨k, rfl⟩ := rounds_succ hk
    simp only [impl_IsFree.l0]; rw [if_pos (by omega), if_pos (by omega), if_pos (by omega), contains_eq S _ (by omega) k (by omega), Option.bind_some, wrs (by omega), ih k (i + 1) (by omega) (by omega), rd_drop H i (by omega), List.all_cons]
    by_cases h : rd H (i : Int) ∈ S
    · rw [if_pos (by simpa using h)]; simp [h]
    · rw [if_neg (by simpa using h)]; simp [h]
theorem all_swap (S H : List Int) : (H.all fun c => !decide (c ∈ S)) = (S.all fun c => !decide (c ∈ H)) := by
  rw [Bool.eq_iff_iff]
  simp only [List.all_eq_true, Bool.not_eq_true', decide_eq_false_iff_not]
  exact ⟨fun h c hc hh => h c hh hc, fun h c hc hh => h c hh hc⟩
theorem impl_IsFree_eq (n : Int) (A : List (List Int)) (S : List Int) (hA : A.length ≤ 1048576) (hS : S.length ≤ 1048576) (k : Nat) (hk : A.length + S.length + 20 < k) : impl_IsFree.f k n A S = some (freeb n A S) := by
  unfold impl_IsFree.f freeb
  have hl := hitG_len n A S
  rw [impl_IsSet_eq n A S hA hS k (by omega), Option.bind_some]
  by_cases h : isS n A S = true
  · rw [if_pos h, impl_HitBy_eq n A S hA hS k (by omega), Option.bind_some, show (0 : Int) = ((0 : Nat) : Int) from rfl, impl_IsFree_l S (hitG n A S) hS hl (hitG n A S).length k 0 (by omega) (by omega), List.drop_zero, all_swap, h, Bool.true_and]
  · rw [if_neg h]; simp [h]
theorem equ_l (a b : List Int) (hl : a.length ≤ 1048576) (hab : a.length = b.length) : ∀ (d k i : Nat), (∀ j, j < i → a[j]? = b[j]?) → i + d = a.length → d < k → slices_Equal_int_int.l0 k a b (a.length : Int) i = some (decide (a = b)) := by
  intro d
  induction d with
  | zero =>
    intro k i hp hd hk
    obtain ⟨k, rfl⟩ := rounds_succ hk
    simp only [slices_Equal_int_int.l0]; rw [if_neg (by omega)]
    have : a = b := by
      refine List.ext_getElem? fun j => ?_
      by_cases hj : j < i
      · exact hp j hj
      · rw [List.getElem?_eq_none (by omega), List.getElem?_eq_none (by omega)]
    simp [this]
  | succ d ih =>
    intro k i hp hd hk
    obtain ⟨k, rfl⟩ := rounds_succ hk
    simp only [slices_Equal_int_int.l0]; rw [if_pos (by omega), if_pos (by omega), if_pos (by omega), if_pos (by omega)]
    by_cases e : rd a i = rd b i
    · rw [if_pos e, wrs (by omega)]
      refine ih k (i + 1) ?_ (by omega) (by omega)
      intro j hj
      by_cases e' : j = i
      · subst e'; rw [rd_some a j (by omega), rd_some b j (by omega), e]
      · exact hp j (by omega)
    · rw [if_neg e]
      have : ¬ a = b := fun h => e (by rw [h])
      simp [this]
theorem equ_eq (a b : List Int) (hl : a.length ≤ 1048576) (k : Nat) (hk : a.length < k) : slices_Equal_int_int.f k a b = some (decide (a = b)) := by
  unfold slices_Equal_int_int.f
  by_cases h : a.length = b.length
  · rw [if_pos (by omega)]
    exact equ_l a b hl h a.length k 0 (fun j hj => by omega) (by omega) hk
  · rw [if_neg (by omega)]
    have : ¬ a = b := fun e => h (by rw [e])
    simp [this]
def compb (n : Int) (A : List (List Int)) (S : List Int) : Bool := freeb n A S && decide (dbyG n A S = S)
theorem impl_IsComplete_eq (n : Int) (A : List (List Int)) (S : List Int) (hA : A.length ≤ 1048576) (hS : S.length ≤ 1048576) (k : Nat) (hk : A.length + 2 * S.length + 120 < k) : impl_IsComplete.f k n A S = some (compb n A S) := by
  have hl := dbyG_len n A S
  unfold impl_IsComplete.f compb
  rw [impl_IsFree_eq n A S hA hS k (by omega), Option.bind_some, impl_DefendedBy_eq n A S hA hS k (by omega), Option.bind_some, equ_eq (dbyG n A S) S (by omega) k (by omega), Option.bind_some]
  cases freeb n A S <;> simp
theorem sl_mk (m : Int) : ∀ (S : List Int) (q : Option Int), (∀ c ∈ S, 0 ≤ c ∧ c ≤ m) → S.Pairwise (· < ·) → (∀ x, q = some x → ∀ c ∈ S, x < c) → sl m q S = true := by
  intro S
  induction S with
  | nil => intro q _ _ _; simp [sl]
  | cons c S ih =>
    intro q h1 h2 h3
    rw [List.pairwise_cons] at h2
    have hc := h1 c (List.mem_cons_self ..)
    have hi := ih (some c) (fun x hx => h1 x (List.mem_cons_of_mem _ hx)) h2.2 (fun x e d hd => by cases e; exact h2.1 d hd)
    cases q with
    | none => simp [sl, hc, hi]
    | some x =>
      have := h3 x rfl c (List.mem_cons_self ..)
      simp [sl, hc, hi, this]
theorem isS_mk {n : Int} {A : List (List Int)} {S : List Int} (hg : isG n A = true) (h1 : ∀ c ∈ S, 0 ≤ c ∧ c < n) (h2 : S.Pairwise (· < ·)) : isS n A S = true := by
  unfold isS
  rw [hg, Bool.true_and]
  exact sl_mk (n - 1) S none (fun c hc => by have := h1 c hc; omega) h2 (fun x e => by cases e)
theorem defends_defb {n : Int} {A : List (List Int)} {S : List Int} {c : Int} (hs : isS n A S = true) (hc : c ∈ cl n) : defends n A S c = defb A S c := by
  have hg := (isS_ok hs).1
  rw [mem_cl] at hc
  unfold defends
  rw [hs, Bool.true_and, decide_eq_true (by omega), Bool.true_and]
  rw [Bool.eq_iff_iff, defb_iff]
  unfold att hitG; rw [if_pos hg, if_pos hg]; unfold attA
  simp only [List.all_eq_true, decide_eq_true_eq, List.mem_map, List.mem_filter, beq_iff_eq]
  constructor
  · intro h p hp e
    exact (mem_hit hg _).1 (h _ ⟨p, ⟨hp, e⟩, rfl⟩)
  · rintro h a ⟨p, ⟨hp, e⟩, rfl⟩
    exact (mem_hit hg _).2 (h p hp e)
theorem dbyG_dby {n : Int} {A : List (List Int)} {S : List Int} (hs : isS n A S = true) : dbyG n A S = dby A n S := by
  unfold dbyG dby
  rw [if_pos hs]
  exact List.filter_congr fun c hc => defends_defb hs hc
theorem dby_isS {n : Int} {A : List (List Int)} (hg : isG n A = true) (S : List Int) : isS n A (dby A n S) = true :=
  isS_mk hg (fun c hc => (mem_cl n c).1 (List.mem_filter.1 hc).1) ((cl_sorted n).sublist List.filter_sublist)
theorem ite_isS {n : Int} {A : List (List Int)} (hg : isG n A = true) (m : Nat) : isS n A (ite_d A n m) = true := by
  cases m with
  | zero => exact isS_mk hg (fun c hc => by cases hc) List.Pairwise.nil
  | succ m => exact dby_isS hg _
theorem dbyG_ite {n : Int} {A : List (List Int)} (hg : isG n A = true) (m : Nat) : dbyG n A (ite_d A n m) = ite_d A n (m + 1) := dbyG_dby (ite_isS hg m)
def grd (n : Int) (A : List (List Int)) : List Int := if isG n A = true then ite_d A n n.toNat else []
theorem grd_len (n : Int) (A : List (List Int)) : (grd n A).length ≤ 10 := by
  unfold grd
  split
  · rename_i h; have := ite_le A n n.toNat; have := (isG_ok h).1; omega
  · simp
theorem grd_stop {n : Int} {A : List (List Int)} (hg : isG n A = true) : ∃ m, m ≤ 10 ∧ ite_d A n (m + 1) = ite_d A n m ∧ ite_d A n m = grd n A ∧ ∀ j, j < m → ite_d A n (j + 1) ≠ ite_d A n j := by
  obtain ⟨m, hm, e, h⟩ := ite_least A n
  have hn := (isG_ok hg).1
  refine ⟨m, by omega, e, ?_, h⟩
  unfold grd; rw [if_pos hg]
  have := ite_const A n m e (n.toNat - m)
  rw [show m + (n.toNat - m) = n.toNat by omega] at this
  exact this.symm
theorem spec_IsSet_l (n : Int) (A : List (List Int)) (S : List Int) (hS : S.length ≤ 1048576) (hn : 0 ≤ n ∧ n ≤ 10) : ∀ (d k i : Nat), i + d = S.length → d < k → spec_IsSet.l0 k S i n A = some (sl (n - 1) (prevS S i) (S.drop i)) := by
  intro d
  induction d with
  | zero =>
    intro k i hd hk
    obtain ⟨k, rfl⟩ := rounds_succ hk
    simp only [spec_IsSet.l0]; rw [if_neg (by omega), List.drop_eq_nil_of_le (by omega)]
    simp [sl]
  | succ d ih =>
    intro k i hd hk
    obtain ⟨k, rfl⟩ := rounds_succ hk
    have hnext := ih k (i + 1) (by omega) (by omega)
    rw [prevS_succ] at hnext
    simp only [spec_IsSet.l0]; rw [if_pos (by omega), if_pos (by omega), wr (i := n - 1) (by omega) (by omega), spec_l1In_eq, Option.bind_some, wrs (by omega), hnext, drop_rdS S i (by omega)]
    simp only [sl]
    generalize rd S (i : Int) = c
    by_cases h1 : 0 ≤ c ∧ c ≤ n - 1
    · rw [if_pos (by simp only [h1, and_self, decide_true])]
      simp only [h1, and_self, decide_true, Bool.true_and]
      by_cases hi : i = 0
      · subst hi
        rw [if_neg (by omega)]; simp [prevS]
      · have e1 : prevS S i = some (rd S ((i - 1 : Nat) : Int)) := by unfold prevS; rw [if_neg hi]
        rw [e1, if_pos (by omega), show wrap64 ((i : Int) - 1) = ((i - 1 : Nat) : Int) by rw [wr (by omega) (by omega)]; omega, if_pos (by omega), if_pos (by omega)]
        generalize rd S ((i - 1 : Nat) : Int) = q
        by_cases h2 : q ≥ c
        · rw [if_pos h2]
          have : decide (q < c) = false := by simp; omega
          simp [this]
        · rw [if_neg h2]
          have : decide (q < c) = true := by simp; omega
          simp [this]
    · rw [if_neg (by simp only [h1, decide_false, Bool.false_eq_true, not_false_eq_true])]; simp [h1]
theorem spec_IsSet_eq (n : Int) (A : List (List Int)) (S : List Int) (hA : A.length ≤ 1048576) (hS : S.length ≤ 1048576) (k : Nat) (hk : 2 * A.length + S.length + 1 < k) : spec_IsSet.f k n A S = some (isS n A S) := by
  unfold spec_IsSet.f isS
  rw [spec_IsGraph_eq n A hA k (by omega), Option.bind_some]
  by_cases h : isG n A = true
  · have := spec_IsSet_l n A S hS (isG_ok h).1 S.length k 0 (by omega) (by omega)
    rw [show ((0 : Nat) : Int) = 0 from rfl] at this
    rw [if_pos h, this, h]; simp [prevS]
  · rw [if_neg h]; simp [h]
theorem spec_l4Has_l (S : List Int) (c : Int) (hS : S.length ≤ 1099511627776) : ∀ (d k i : Nat), i + d = S.length → d < k → spec_l4Has.l0 k S c i = some (decide (c ∈ S.drop i)) := by
  intro d
  induction d with
  | zero =>
    intro k i hd hk
    obtain ⟨k, rfl⟩ := rounds_succ hk
    simp only [spec_l4Has.l0]; rw [if_neg (by omega), List.drop_eq_nil_of_le (by omega)]; simp
  | succ d ih =>
    intro k i hd hk
    obtain ⟨k, rfl⟩ := rounds_succ hk
    simp only [spec_l4Has.l0]; rw [if_pos (by omega), if_pos (by omega), wrs (by omega), ih k (i + 1) (by omega) (by omega)]
    have e : S.drop i = rd S i :: S.drop (i + 1) := by rw [rd_nat S i (by omega)]; exact List.drop_eq_getElem_cons _
    rw [e]
    by_cases h : rd S (i : Int) = c
    · rw [if_pos h]; simp [h]
    · rw [if_neg h]
      have : ¬ c = rd S (i : Int) := fun e => h e.symm
      simp [this]
theorem spec_l4Has_eq (S : List Int) (c : Int) (hS : S.length ≤ 1099511627776) (k : Nat) (hk : S.length < k) : spec_l4Has.f k S c = some (decide (c ∈ S)) := by
  have := spec_l4Has_l S c hS S.length k 0 (by omega) hk
  unfold spec_l4Has.f
  simpa using this
theorem hitb_drop (A : List (List Int)) (S : List Int) (k : Int) (i : Nat) (hi : i < A.length) : hitb (A.drop i) S k = (((rd (rd_L1 A (i : Int)) 1 == k) && S.contains (rd (rd_L1 A (i : Int)) 0)) || hitb (A.drop (i + 1)) S k) := by
  rw [rdL_drop A i hi]; unfold hitb; rw [List.any_cons]
theorem cl_from (n : Int) (i : Nat) (hi : (i : Int) < n) : (cl n).drop i = (i : Int) :: (cl n).drop (i + 1) := by
  have hl : i < (cl n).length := by rw [cl_length]; omega
  rw [List.drop_eq_getElem_cons hl]
  congr 1
  simp [cl]
theorem spec_HitBy_l1 (n : Int) (A : List (List Int)) (S : List Int) (c : Int) (o : List Int) (hA : A.length ≤ 1048576) (hS : S.length ≤ 1048576) (hg : isG n A = true) : ∀ (d k i : Nat) (b : Bool), i + d = A.length → o.length ≤ 16 → d + S.length + 1 < k → spec_HitBy.l1 k S o c b i n A = spec_HitBy.l0 (k - d - 1) S (if (b || hitb (A.drop i) S c) = true then o ++ [c] else o) (wrap64 (c + 1)) n A := by
  intro d
  induction d with
  | zero =>
    intro k i b hd ho hk
    obtain ⟨k, rfl⟩ := rounds_succ hk
    simp only [spec_HitBy.l1]; rw [if_neg (by omega), List.drop_eq_nil_of_le (by omega)]
    have : hitb [] S c = false := rfl
    rw [this, Bool.or_false]
    cases b
    · simp
    · simp; omega
  | succ d ih =>
    intro k i b hd ho hk
    obtain ⟨k, rfl⟩ := rounds_succ hk
    have h2 := isG_len2 hg i (by omega)
    rw [show k + 1 - (d + 1) - 1 = k - d - 1 by omega]
    simp only [spec_HitBy.l1]; rw [if_pos (by omega), wrs (by omega)]
    cases b with
    | true =>
      rw [if_pos rfl, ih k (i + 1) true (by omega) ho (by omega)]; simp
    | false =>
      rw [if_neg (by simp), if_pos (by omega), hitb_drop A S c i (by omega)]
      generalize rd_L1 A (i : Int) = p at h2 ⊢
      rw [if_pos (by omega)]
      by_cases h : rd p 1 = c
      · rw [if_pos h, if_pos (by omega), spec_l4Has_eq S _ (by omega) k (by omega), Option.bind_some, ih k (i + 1) _ (by omega) ho (by omega)]
        simp [h]
      · rw [if_neg h, ih k (i + 1) false (by omega) ho (by omega)]
        simp [h]
theorem spec_HitBy_l0 (n : Int) (A : List (List Int)) (S : List Int) (hA : A.length ≤ 1048576) (hS : S.length ≤ 1048576) (hg : isG n A = true) : ∀ (d k i : Nat) (o : List Int), i + d = n.toNat → o.length ≤ i → d * (A.length + 3) + 2 * A.length + S.length + 9 < k → spec_HitBy.l0 k S o i n A = some (o ++ ((cl n).drop i).filter (hitb A S)) := by
  have hn := (isG_ok hg).1
  intro d
  induction d with
  | zero =>
    intro k i o hd ho hk
    obtain ⟨k, rfl⟩ := rounds_succ hk
    obtain ⟨k, rfl⟩ := rounds_succ (show 0 < k by omega)
    simp only [spec_HitBy.l0, spec_HitBy.j1]; rw [if_neg (by omega), if_neg (by simp), List.drop_eq_nil_of_le (by rw [cl_length]; omega)]; simp
  | succ d ih =>
    intro k i o hd ho hk
    rw [Nat.succ_mul] at hk
    obtain ⟨k, rfl⟩ := rounds_succ hk
    obtain ⟨k, rfl⟩ := rounds_succ (show 0 < k by omega)
    simp only [spec_HitBy.l0]; rw [if_pos (by omega), spec_IsGraph_eq n A hA (k + 1) (by omega), Option.bind_some, hg]
    simp only [spec_HitBy.j1]; rw [if_pos trivial, show (0 : Int) = ((0 : Nat) : Int) from rfl, spec_HitBy_l1 n A S i o hA hS hg A.length k 0 false (by omega) (by omega) (by omega), wrs (by omega), Bool.false_or, List.drop_zero]
    by_cases h : hitb A S (i : Int) = true
    · rw [if_pos h, ih _ (i + 1) _ (by omega) (by rw [List.length_append, List.length_singleton]; omega) (by omega), cl_from n i (by omega), List.filter_cons_of_pos h, List.append_assoc]; rfl
    · rw [if_neg h, ih _ (i + 1) _ (by omega) (by omega) (by omega), cl_from n i (by omega), List.filter_cons_of_neg h]
theorem spec_HitBy_eq (n : Int) (A : List (List Int)) (S : List Int) (hA : A.length ≤ 1048576) (hS : S.length ≤ 1048576) (k : Nat) (hk : 12 * A.length + S.length + 40 < k) : spec_HitBy.f k n A S = some (hitG n A S) := by
  unfold spec_HitBy.f hitG
  by_cases h : isG n A = true
  · rw [if_pos h]
    have hn := (isG_ok h).1
    have hm : n.toNat * (A.length + 3) ≤ 10 * (A.length + 3) := Nat.mul_le_mul_right _ (by omega)
    have := spec_HitBy_l0 n A S hA hS h n.toNat k 0 [] (by omega) (by simp) (by omega)
    simpa [hit] using this
  · rw [if_neg h]
    obtain ⟨k, rfl⟩ := rounds_succ hk
    obtain ⟨k, rfl⟩ := rounds_succ (show 0 < k by omega)
    have hf : isG n A = false := by simpa using h
    simp only [spec_HitBy.l0]
    rw [spec_IsGraph_eq n A hA (k + 1) (by omega), Option.bind_some, hf]
    simp only [spec_HitBy.j1]
    split <;> simp
theorem spec_AttackersOf_l (n : Int) (A : List (List Int)) (c : Int) (hA : A.length ≤ 1048576) (hg : isG n A = true) : ∀ (d k i : Nat) (o : List Int), i + d = A.length → o.length ≤ i → 2 * d + 2 * A.length + 3 < k → spec_AttackersOf.l0 k c o i n A = some (o ++ attA (A.drop i) c) := by
  intro d
  induction d with
  | zero =>
    intro k i o hd ho hk
    obtain ⟨k, rfl⟩ := rounds_succ hk
    obtain ⟨k, rfl⟩ := rounds_succ (show 0 < k by omega)
    simp only [spec_AttackersOf.l0, spec_AttackersOf.j1]; rw [if_neg (by omega), if_neg (by simp), List.drop_eq_nil_of_le (by omega)]; simp [attA]
  | succ d ih =>
    intro k i o hd ho hk
    obtain ⟨k, rfl⟩ := rounds_succ hk
    obtain ⟨k, rfl⟩ := rounds_succ (show 0 < k by omega)
    have h2 := isG_len2 hg i (by omega)
    simp only [spec_AttackersOf.l0]; rw [if_pos (by omega), spec_IsGraph_eq n A hA (k + 1) (by omega), Option.bind_some, hg]
    simp only [spec_AttackersOf.j1]; rw [if_pos trivial, if_pos (by omega), if_pos (by omega), if_pos (by omega), wrs (by omega), rdL_drop A i (by omega)]
    generalize rd_L1 A (i : Int) = p at h2 ⊢
    by_cases h : rd p 1 = c
    · rw [if_pos h, if_pos (by omega), if_pos (by omega), ih k (i + 1) _ (by omega) (by rw [List.length_append, List.length_singleton]; omega) (by omega)]
      simp [attA, h]
    · rw [if_neg h, ih k (i + 1) _ (by omega) (by omega) (by omega)]
      simp [attA, h]
theorem spec_AttackersOf_eq (n : Int) (A : List (List Int)) (c : Int) (hA : A.length ≤ 1048576) (k : Nat) (hk : 4 * A.length + 3 < k) : spec_AttackersOf.f k n A c = some (att n A c) := by
  unfold spec_AttackersOf.f att
  by_cases h : isG n A = true
  · rw [if_pos h]
    have := spec_AttackersOf_l n A c hA h A.length k 0 [] (by omega) (by simp) (by omega)
    simpa using this
  · rw [if_neg h]
    obtain ⟨k, rfl⟩ := rounds_succ hk
    obtain ⟨k, rfl⟩ := rounds_succ (show 0 < k by omega)
    have hf : isG n A = false := by simpa using h
    simp only [spec_AttackersOf.l0]
    rw [spec_IsGraph_eq n A hA (k + 1) (by omega), Option.bind_some, hf]
    simp only [spec_AttackersOf.j1]
    split <;> simp
theorem spec_Defends_l (H L : List Int) (hH : H.length ≤ 10) (hL : L.length ≤ 1048576) : ∀ (d k i : Nat), i + d = L.length → d + 20 < k → spec_Defends.l0 k H L i = some ((L.drop i).all fun a => decide (a ∈ H)) := by
  intro d
  induction d with
  | zero =>
    intro k i hd hk
    obtain ⟨k, rfl⟩ := rounds_succ hk
    simp only [spec_Defends.l0]; rw [if_neg (by omega), List.drop_eq_nil_of_le (by omega)]; simp
  | succ d ih =>
    intro k i hd hk
    obtain ⟨k, rfl⟩ := rounds_succ hk
    simp only [spec_Defends.l0]; rw [if_pos (by omega), if_pos (by omega), spec_l4Has_eq H _ (by omega) k (by omega), Option.bind_some, wrs (by omega), ih k (i + 1) (by omega) (by omega), rd_drop L i (by omega), List.all_cons]
    by_cases h : rd L (i : Int) ∈ H
    · rw [if_pos (by simpa using h)]; simp [h]
    · rw [if_neg (by simpa using h)]; simp [h]
theorem spec_Defends_eq (n : Int) (A : List (List Int)) (S : List Int) (c : Int) (hA : A.length ≤ 1048576) (hS : S.length ≤ 1048576) (k : Nat) (hk : 12 * A.length + S.length + 60 < k) : spec_Defends.f k n A S c = some (defends n A S c) := by
  obtain ⟨k, rfl⟩ := rounds_succ hk
  unfold spec_Defends.f defends
  rw [spec_IsSet_eq n A S hA hS (k + 1) (by omega), Option.bind_some]
  simp only [spec_Defends.j0]
  by_cases h : isS n A S = true
  · have hn := (isG_ok (isS_ok h).1).1
    have hl := att_len n A c
    rw [if_pos h, wr (i := n - 1) (by omega) (by omega), spec_l1In_eq, Option.bind_some, h, Bool.true_and]
    by_cases h1 : 0 ≤ c ∧ c ≤ n - 1
    · have := spec_Defends_l (hitG n A S) (att n A c) (hitG_len n A S) (by omega) (att n A c).length k 0 (by omega) (by omega)
      simp only [List.drop_zero, Int.natCast_zero] at this
      rw [if_neg (by simp [h1]), spec_HitBy_eq n A S hA hS k (by omega), Option.bind_some, spec_AttackersOf_eq n A c hA k (by omega), Option.bind_some, this]
      simp [h1]
    · have h1b : decide (0 ≤ c ∧ c ≤ n - 1) = false := decide_eq_false h1
      rw [h1b]; simp
  · rw [if_neg h]; simp [h]
theorem spec_DefendedBy_l (n : Int) (A : List (List Int)) (S : List Int) (hA : A.length ≤ 1048576) (hS : S.length ≤ 1048576) (hs : isS n A S = true) : ∀ (d k i : Nat) (o : List Int), i + d = n.toNat → o.length ≤ i → 2 * d + 12 * A.length + 2 * S.length + 80 < k → spec_DefendedBy.l0 k S o i n A = some (o ++ ((cl n).drop i).filter (defends n A S)) := by
  have hn := (isG_ok (isS_ok hs).1).1
  intro d
  induction d with
  | zero =>
    intro k i o hd ho hk
    obtain ⟨k, rfl⟩ := rounds_succ hk
    obtain ⟨k, rfl⟩ := rounds_succ (show 0 < k by omega)
    simp only [spec_DefendedBy.l0, spec_DefendedBy.j1]; rw [if_neg (by omega), if_neg (by simp), List.drop_eq_nil_of_le (by rw [cl_length]; omega)]; simp
  | succ d ih =>
    intro k i o hd ho hk
    obtain ⟨k, rfl⟩ := rounds_succ hk
    obtain ⟨k, rfl⟩ := rounds_succ (show 0 < k by omega)
    simp only [spec_DefendedBy.l0]; rw [if_pos (by omega), spec_IsSet_eq n A S hA hS (k + 1) (by omega), Option.bind_some, hs]
    simp only [spec_DefendedBy.j1]; rw [if_pos trivial, spec_Defends_eq n A S _ hA hS k (by omega), Option.bind_some, wrs (by omega), clx_at n i (by omega)]
    by_cases h : defends n A S (i : Int) = true
    · rw [if_pos h, if_pos (by omega), ih k (i + 1) _ (by omega) (by rw [List.length_append, List.length_singleton]; omega) (by omega), List.filter_cons_of_pos h, List.append_assoc]; rfl
    · rw [if_neg h, ih k (i + 1) _ (by omega) (by omega) (by omega), List.filter_cons_of_neg h]
theorem spec_DefendedBy_eq (n : Int) (A : List (List Int)) (S : List Int) (hA : A.length ≤ 1048576) (hS : S.length ≤ 1048576) (k : Nat) (hk : 12 * A.length + 2 * S.length + 120 < k) : spec_DefendedBy.f k n A S = some (dbyG n A S) := by
  unfold spec_DefendedBy.f dbyG
  by_cases hs : isS n A S = true
  · have hn := (isG_ok (isS_ok hs).1).1
    have := spec_DefendedBy_l n A S hA hS hs n.toNat k 0 [] (by omega) (by simp) (by omega)
    rw [if_pos hs]
    simpa using this
  · have hf : isS n A S = false := by simpa using hs
    obtain ⟨k, rfl⟩ := rounds_succ hk
    obtain ⟨k, rfl⟩ := rounds_succ (show 0 < k by omega)
    simp only [spec_DefendedBy.l0]
    rw [spec_IsSet_eq n A S hA hS (k + 1) (by omega), Option.bind_some, hf]
    simp only [spec_DefendedBy.j1]
    split <;> simp
theorem spec_EqualInts_l (a b : List Int) (hl : a.length ≤ 1048576) (hab : a.length = b.length) : ∀ (d k i : Nat), (∀ j, j < i → a[j]? = b[j]?) → i + d = a.length → d < k → spec_EqualInts.l0 k a b i = some (decide (a = b)) := by
  intro d
  induction d with
  | zero =>
    intro k i hp hd hk
    obtain ⟨k, rfl⟩ := rounds_succ hk
    simp only [spec_EqualInts.l0]; rw [if_neg (by omega)]
    have : a = b := by
      refine List.ext_getElem? fun j => ?_
      by_cases hj : j < i
      · exact hp j hj
      · rw [List.getElem?_eq_none (by omega), List.getElem?_eq_none (by omega)]
    simp [this]
  | succ d ih =>
    intro k i hp hd hk
    obtain ⟨k, rfl⟩ := rounds_succ hk
    simp only [spec_EqualInts.l0]; rw [if_pos (by omega), if_pos (by omega), if_pos (by omega)]
    by_cases e : rd a i = rd b i
    · rw [if_pos e, wrs (by omega)]
      refine ih k (i + 1) ?_ (by omega) (by omega)
      intro j hj
      by_cases e' : j = i
      · subst e'; rw [rd_some a j (by omega), rd_some b j (by omega), e]
      · exact hp j (by omega)
    · rw [if_neg e]
      have : ¬ a = b := fun h => e (by rw [h])
      simp [this]
theorem spec_EqualInts_eq (a b : List Int) (hl : a.length ≤ 1048576) (k : Nat) (hk : a.length < k) : spec_EqualInts.f k a b = some (decide (a = b)) := by
  unfold spec_EqualInts.f
  by_cases h : a.length = b.length
  · rw [if_pos (by omega)]
    exact spec_EqualInts_l a b hl h a.length k 0 (fun j hj => by omega) (by omega) hk
  · rw [if_neg (by omega)]
    have : ¬ a = b := fun e => h (by rw [e])
    simp [this]
theorem spec_Grounded_l (n : Int) (A : List (List Int)) (hA : A.length ≤ 1048576) (hg : isG n A = true) (m : Nat) (hm : m ≤ 10) (e : ite_d A n (m + 1) = ite_d A n m) (hne : ∀ j, j < m → ite_d A n (j + 1) ≠ ite_d A n j) : ∀ (d k j : Nat), j + d = m → d + 12 * A.length + 300 < k → spec_Grounded.l0 k (ite_d A n j) n A = some (ite_d A n m) := by
  intro d
  have hn := (isG_ok hg).1
  induction d with
  | zero =>
    intro k j hd hk
    obtain ⟨k, rfl⟩ := rounds_succ hk
    have hj : j = m := by omega
    subst hj
    have h1 := ite_le A n j
    have h2 := ite_le A n (j + 1)
    simp only [spec_Grounded.l0]
    rw [spec_DefendedBy_eq n A _ hA (by omega) k (by omega), Option.bind_some, dbyG_ite hg, spec_EqualInts_eq _ _ (by omega) k (by omega), Option.bind_some, if_pos (by simpa using e), e]
  | succ d ih =>
    intro k j hd hk
    obtain ⟨k, rfl⟩ := rounds_succ hk
    have h1 := ite_le A n j
    have h2 := ite_le A n (j + 1)
    simp only [spec_Grounded.l0]
    rw [spec_DefendedBy_eq n A _ hA (by omega) k (by omega), Option.bind_some, dbyG_ite hg, spec_EqualInts_eq _ _ (by omega) k (by omega), Option.bind_some, if_neg (by simpa using hne j (by omega))]
    exact ih k (j + 1) (by omega) (by omega)
theorem spec_Grounded_eq (n : Int) (A : List (List Int)) (hA : A.length ≤ 1048576) (k : Nat) (hk : 12 * A.length + 320 < k) : spec_Grounded.f k n A = some (grd n A) := by
  unfold spec_Grounded.f
  by_cases hg : isG n A = true
  · obtain ⟨m, hm, e, em, hne⟩ := grd_stop hg
    rw [← em]
    exact spec_Grounded_l n A hA hg m hm e hne m k 0 (by omega) (by omega)
  · obtain ⟨k, rfl⟩ := rounds_succ hk
    have hz : dbyG n A [] = [] := by
      unfold dbyG isS
      have : isG n A = false := by simpa using hg
      rw [this]; rfl
    simp only [spec_Grounded.l0]
    rw [spec_DefendedBy_eq n A [] hA (by simp) k (by simp; omega), Option.bind_some, hz, spec_EqualInts_eq _ _ (by simp) k (by simp; omega), Option.bind_some]
    unfold grd; rw [if_neg hg]; simp
def rowsd (A : List (List Int)) (n : Int) (j : Nat) : List (List Int) := (List.range (j + 1)).map (ite_d A n)
theorem rowsd_len (A : List (List Int)) (n : Int) (j : Nat) : (rowsd A n j).length = j + 1 := by simp [rowsd]
theorem rowsd_last (A : List (List Int)) (n : Int) (j : Nat) : rd_L1 (rowsd A n j) (wrap64 (((rowsd A n j).length : Int) - 1)) = ite_d A n j ∨ ¬ j ≤ 10 := by
  by_cases hj : j ≤ 10
  · left
    rw [rowsd_len, wr (by omega) (by omega)]
    rw [show (((j + 1 : Nat) : Int) - 1) = ((j : Nat) : Int) by omega]
    unfold rd_L1 rowsd
    simp [List.getD_eq_getElem?_getD]
  · exact .inr hj
theorem impl_rounds_l (n : Int) (A : List (List Int)) (hA : A.length ≤ 1048576) (hg : isG n A = true) (m : Nat) (hm : m ≤ 10) (e : ite_d A n (m + 1) = ite_d A n m) (hne : ∀ j, j < m → ite_d A n (j + 1) ≠ ite_d A n j) : ∀ (d k j : Nat), j + d = m → d + A.length + 200 < k → impl_rounds.l0 k (rowsd A n j) n A = some (rowsd A n m) := by
  intro d
  have hn := (isG_ok hg).1
  induction d with
  | zero =>
    intro k j hd hk
    obtain ⟨k, rfl⟩ := rounds_succ hk
    have hj : j = m := by omega
    subst hj
    have h1 := ite_le A n j
    have hl := rowsd_len A n j
    have hlast := (rowsd_last A n j).resolve_right (by omega)
    simp only [impl_rounds.l0]
    rw [if_pos (by rw [hl, wr (by omega) (by omega)]; omega), if_pos (by rw [hl, wr (by omega) (by omega)]; omega), hlast, impl_DefendedBy_eq n A _ hA (by omega) k (by omega), Option.bind_some, dbyG_ite hg]
    have h2 := ite_le A n (j + 1)
    rw [equ_eq _ _ (by omega) k (by omega), Option.bind_some, if_pos (by simpa using e)]
  | succ d ih =>
    intro k j hd hk
    obtain ⟨k, rfl⟩ := rounds_succ hk
    have h1 := ite_le A n j
    have hl := rowsd_len A n j
    have hlast := (rowsd_last A n j).resolve_right (by omega)
    simp only [impl_rounds.l0]
    rw [if_pos (by rw [hl, wr (by omega) (by omega)]; omega), if_pos (by rw [hl, wr (by omega) (by omega)]; omega), hlast, impl_DefendedBy_eq n A _ hA (by omega) k (by omega), Option.bind_some, dbyG_ite hg]
    have h2 := ite_le A n (j + 1)
    rw [equ_eq _ _ (by omega) k (by omega), Option.bind_some, if_neg (by simpa using hne j (by omega)), if_pos (by omega)]
    have : rowsd A n j ++ [ite_d A n (j + 1)] = rowsd A n (j + 1) := by unfold rowsd; rw [List.range_succ (n := j + 1), List.map_append]; rfl
    rw [this]
    exact ih k (j + 1) (by omega) (by omega)
theorem impl_Grounded_eq (n : Int) (A : List (List Int)) (hA : A.length ≤ 1048576) (k : Nat) (hk : A.length + 300 < k) : impl_Grounded.f k n A = some (grd n A) := by
  unfold impl_Grounded.f impl_rounds.f
  rw [Option.bind_some, impl_IsGraph_eq n A hA k (by omega), Option.bind_some]
  by_cases hg : isG n A = true
  · obtain ⟨m, hm, e, em, hne⟩ := grd_stop hg
    have hl := rowsd_len A n m
    have hlast := (rowsd_last A n m).resolve_right (by omega)
    rw [if_pos hg, show ([([] : List Int)] : List (List Int)) = rowsd A n 0 from rfl, impl_rounds_l n A hA hg m hm e hne m k 0 (by omega) (by omega), Option.bind_some]
    rw [if_pos (by rw [hl, wr (by omega) (by omega)]; omega), if_pos (by rw [hl, wr (by omega) (by omega)]; omega), hlast, em]
  · rw [if_neg hg, Option.bind_some]
    unfold grd; rw [if_neg hg]
    have hw : wrap64 ((([([] : List Int)] : List (List Int)).length : Int) - 1) = 0 := by rw [wr (by simp) (by simp)]; rfl
    rw [hw, if_pos (by omega), if_pos (by simp)]; rfl
def wIn : ByteArray := ⟨#[105, 110]⟩
def wOut : ByteArray := ⟨#[111, 117, 116]⟩
def wOpen : ByteArray := ⟨#[111, 112, 101, 110]⟩
def lab (I H : List Int) (c : Int) : ByteArray := if c ∈ I then wIn else if c ∈ H then wOut else wOpen
def labs (n : Int) (A : List (List Int)) : List ByteArray := if isG n A = true then (cl n).map (lab (grd n A) (hitG n A (grd n A))) else []
theorem labs_len (n : Int) (A : List (List Int)) : (labs n A).length ≤ 10 := by
  unfold labs
  split
  · rename_i h; rw [List.length_map, cl_length]; have := (isG_ok h).1; omega
  · simp
theorem cly_at (n : Int) (i : Nat) (hi : (i : Int) < n) : (cl n).drop i = (i : Int) :: (cl n).drop (i + 1) := by
  have hl : i < (cl n).length := by rw [cl_length]; omega
  rw [List.drop_eq_getElem_cons hl]
  congr 1
  simp [cl]
theorem impl_Labels_l (n : Int) (I H : List Int) (hn : 0 ≤ n ∧ n ≤ 10) (hI : I.length ≤ 10) (hH : H.length ≤ 10) : ∀ (d k i : Nat) (o : List ByteArray), i + d = n.toNat → o.length ≤ i → d + 40 < k → impl_Labels.l0 k o I H n i = some (o ++ ((cl n).drop i).map (lab I H)) := by
  intro d
  induction d with
  | zero =>
    intro k i o hd ho hk
    obtain ⟨k, rfl⟩ := rounds_succ hk
    simp only [impl_Labels.l0]; rw [if_neg (by omega), List.drop_eq_nil_of_le (by rw [cl_length]; omega)]; simp
  | succ d ih =>
    intro k i o hd ho hk
    obtain ⟨k, rfl⟩ := rounds_succ hk
    have hx := fun w => ih k (i + 1) (o ++ [w]) (by omega) (by rw [List.length_append, List.length_singleton]; omega) (by omega)
    simp only [impl_Labels.l0]; rw [if_pos (by omega), contains_eq I _ (by omega) k (by omega), Option.bind_some, contains_eq H _ (by omega) k (by omega), Option.bind_some, wrs (by omega), hx, hx, hx, cly_at n i (by omega), List.map_cons]
    unfold lab
    by_cases h : (i : Int) ∈ I
    · rw [if_pos (by simpa using h), if_pos (by omega), if_pos h, List.append_assoc]; rfl
    · rw [if_neg (by simpa using h), if_neg h]
      by_cases h2 : (i : Int) ∈ H
      · rw [if_pos (by simpa using h2), if_pos (by omega), if_pos h2, List.append_assoc]; rfl
      · rw [if_neg (by simpa using h2), if_pos (by omega), if_neg h2, List.append_assoc]; rfl
theorem impl_Labels_eq (n : Int) (A : List (List Int)) (hA : A.length ≤ 1048576) (k : Nat) (hk : A.length + 400 < k) : impl_Labels.f k n A = some (labs n A) := by
  have hl := grd_len n A
  unfold impl_Labels.f labs
  rw [Option.bind_some, impl_IsGraph_eq n A hA k (by omega), Option.bind_some]
  by_cases hg : isG n A = true
  · have hn := (isG_ok hg).1
    have := impl_Labels_l n (grd n A) (hitG n A (grd n A)) hn hl (hitG_len n A _) n.toNat k 0 [] (by omega) (by simp) (by omega)
    rw [if_pos hg, if_pos hg, impl_Grounded_eq n A hA k (by omega), Option.bind_some, impl_HitBy_eq n A _ hA (by omega) k (by omega), Option.bind_some]
    simpa using this
  · rw [if_neg hg, if_neg hg]
def opens (L : List ByteArray) (i : Nat) : List Int := match L with
  | [] => []
  | w :: R => if w.toList = ([111, 112, 101, 110] : List UInt8) then (i : Int) :: opens R (i + 1) else opens R (i + 1)
theorem opens_len (L : List ByteArray) : ∀ i, (opens L i).length ≤ L.length := by
  induction L with
  | nil => intro i; simp [opens]
  | cons w R ih =>
    intro i
    have := ih (i + 1)
    simp only [opens]
    split
    · simp only [List.length_cons]; omega
    · simp only [List.length_cons]; omega
theorem rdw_drop (L : List ByteArray) (i : Nat) (h : i < L.length) : L.drop i = rdOf ByteArray.empty L (i : Int) :: L.drop (i + 1) := by
  rw [List.drop_eq_getElem_cons h]
  congr 1
  unfold rdOf
  rw [Int.toNat_natCast, List.getD_eq_getElem?_getD, List.getElem?_eq_getElem h]; rfl
theorem impl_OpenClaims_l (L : List ByteArray) (hL : L.length ≤ 10) : ∀ (d k i : Nat) (o : List Int), i + d = L.length → o.length ≤ i → d < k → impl_OpenClaims.l0 k o L (L.length : Int) i = some (o ++ opens (L.drop i) i) := by
  intro d
  induction d with
  | zero =>
    intro k i o hd ho hk
    obtain ⟨k, rfl⟩ := rounds_succ hk
    simp only [impl_OpenClaims.l0]; rw [if_neg (by omega), List.drop_eq_nil_of_le (by omega)]; simp [opens]
  | succ d ih =>
    intro k i o hd ho hk
    obtain ⟨k, rfl⟩ := rounds_succ hk
    simp only [impl_OpenClaims.l0]; rw [if_pos (by omega), if_pos (by omega), if_pos (by omega), wrs (by omega), rdw_drop L i (by omega)]
    simp only [opens]
    split
    · rw [if_pos (by omega), ih k (i + 1) _ (by omega) (by rw [List.length_append, List.length_singleton]; omega) (by omega), List.append_assoc]; rfl
    · rw [ih k (i + 1) _ (by omega) (by omega) (by omega)]
def openG (n : Int) (A : List (List Int)) : List Int := opens (labs n A) 0
theorem openG_len (n : Int) (A : List (List Int)) : (openG n A).length ≤ 10 := by
  unfold openG; have := opens_len (labs n A) 0; have := labs_len n A; omega
theorem impl_OpenClaims_eq (n : Int) (A : List (List Int)) (hA : A.length ≤ 1048576) (k : Nat) (hk : A.length + 500 < k) : impl_OpenClaims.f k n A = some (openG n A) := by
  have hl := labs_len n A
  unfold impl_OpenClaims.f openG
  rw [impl_Labels_eq n A hA k (by omega), Option.bind_some]
  have := impl_OpenClaims_l (labs n A) hl (labs n A).length k 0 [] (by omega) (by simp) (by omega)
  simpa using this
def fr (A : List (List Int)) (n c : Int) : Nat → Nat → Int
  | 0, _ => -1
  | d + 1, j => if c ∈ ite_d A n j then (j : Int) else fr A n c d (j + 1)
theorem fr_none (A : List (List Int)) (n c : Int) : ∀ (d j : Nat), (∀ i, j ≤ i → i < j + d → ¬ c ∈ ite_d A n i) → fr A n c d j = -1 := by
  intro d
  induction d with
  | zero => intro j _; rfl
  | succ d ih =>
    intro j h
    unfold fr
    rw [if_neg (h j (by omega) (by omega))]
    exact ih (j + 1) (fun i h1 h2 => h i (by omega) (by omega))
theorem fr_ext (A : List (List Int)) (n c : Int) (e : Nat) : ∀ (d j : Nat), (∀ i, j + d ≤ i → i < j + d + e → c ∈ ite_d A n i → ∃ i', j ≤ i' ∧ i' < j + d ∧ c ∈ ite_d A n i') → fr A n c (d + e) j = fr A n c d j := by
  intro d
  induction d with
  | zero =>
    intro j h
    rw [Nat.zero_add]
    exact fr_none A n c e j (fun i h1 h2 h3 => by obtain ⟨i', h4, h5, _⟩ := h i (by omega) (by omega) h3; omega)
  | succ d ih =>
    intro j h
    rw [show d + 1 + e = (d + e) + 1 by omega]
    unfold fr
    by_cases hc : c ∈ ite_d A n j
    · rw [if_pos hc, if_pos hc]
    · rw [if_neg hc, if_neg hc]
      refine ih (j + 1) (fun i h1 h2 h3 => ?_)
      obtain ⟨i', h4, h5, h6⟩ := h i (by omega) (by omega) h3
      rcases Nat.lt_or_ge j i' with h7 | h7
      · exact ⟨i', h7, by omega, h6⟩
      · obtain rfl : i' = j := by omega
        exact absurd h6 hc
def rndG (n : Int) (A : List (List Int)) (c : Int) : Int := if isG n A = true then fr A n c n.toNat 1 else -1
theorem fr_stop {A : List (List Int)} {n : Int} (m : Nat) (hm : m ≤ n.toNat) (e : ite_d A n (m + 1) = ite_d A n m) (c : Int) : fr A n c (m + 1) 0 = fr A n c n.toNat 1 := by
  have h0 : fr A n c (m + 1) 0 = fr A n c m 1 := by
    have : ¬ c ∈ ite_d A n 0 := fun h => by cases h
    conv => lhs; unfold fr
    rw [if_neg this]
  rw [h0]
  have := fr_ext A n c (n.toNat - m) m 1 (fun i h1 h2 h3 => by
    have hc := ite_const A n m e (i - m)
    rw [show m + (i - m) = i by omega] at hc
    rw [hc] at h3
    rcases Nat.eq_zero_or_pos m with hz | hz
    · subst hz; cases h3
    · exact ⟨m, by omega, by omega, h3⟩)
  rw [← this, show m + (n.toNat - m) = n.toNat by omega]
theorem idx_rows (n : Int) (A : List (List Int)) (c : Int) (hn : n ≤ 10) (m : Nat) (k : Nat) (hk : 20 < k) : ∀ (d i : Nat), i + d = m + 1 → slices_IndexFunc_L.idx (fun x => slices_Contains_int_int.f k x c) ((rowsd A n m).drop i) (i : Int) = some (fr A n c d i) := by
  intro d
  have hl := rowsd_len A n m
  induction d with
  | zero => intro i hd; rw [List.drop_eq_nil_of_le (by omega)]; rfl
  | succ d ih =>
    intro i hd
    have he : (rowsd A n m).drop i = ite_d A n i :: (rowsd A n m).drop (i + 1) := by
      rw [List.drop_eq_getElem_cons (by omega)]
      congr 1
      simp [rowsd]
    have hle := ite_le A n i
    rw [he]
    unfold slices_IndexFunc_L.idx
    rw [contains_eq (ite_d A n i) c (by omega) k (by omega), Option.bind_some]
    unfold fr
    by_cases hc : c ∈ ite_d A n i
    · rw [if_pos (by simpa using hc), if_pos hc]
    · rw [if_neg (by simpa using hc), if_neg hc]
      have := ih (i + 1) (by omega)
      rw [show ((i + 1 : Nat) : Int) = (i : Int) + 1 by omega] at this
      exact this
theorem impl_RoundOf_eq (n : Int) (A : List (List Int)) (c : Int) (hA : A.length ≤ 1048576) (k : Nat) (hk : A.length + 300 < k) : impl_RoundOf.f k n A c = some (rndG n A c) := by
  unfold impl_RoundOf.f impl_rounds.f rndG
  rw [Option.bind_some, impl_IsGraph_eq n A hA k (by omega), Option.bind_some]
  by_cases hg : isG n A = true
  · obtain ⟨m, hm, e, hne⟩ := ite_least A n
    have hn := (isG_ok hg).1
    rw [if_pos hg, if_pos hg, show ([([] : List Int)] : List (List Int)) = rowsd A n 0 from rfl, impl_rounds_l n A hA hg m (by omega) e hne m k 0 (by omega) (by omega), Option.bind_some]
    have := idx_rows n A c (by omega) m k (by omega) (m + 1) 0 (by omega)
    rw [List.drop_zero] at this
    rw [show (0 : Int) = ((0 : Nat) : Int) from rfl, this, fr_stop m hm e]
  · rw [if_neg hg, if_neg hg, Option.bind_some]
    unfold slices_IndexFunc_L.idx
    rw [contains_eq [] c (by simp) k (by simp; omega), Option.bind_some, if_neg (by simp)]
    rfl
theorem laws_contains_l (S : List Int) (c : Int) (hS : S.length ≤ 1048576) : ∀ (d k i : Nat), i + d = S.length → d < k → laws_contains.l0 k S c i = some (decide (c ∈ S.drop i)) := by
  intro d
  induction d with
  | zero =>
    intro k i hd hk
    obtain ⟨k, rfl⟩ := rounds_succ hk
    simp only [laws_contains.l0]; rw [if_neg (by omega), List.drop_eq_nil_of_le (by omega)]; simp
  | succ d ih =>
    intro k i hd hk
    obtain ⟨k, rfl⟩ := rounds_succ hk
    simp only [laws_contains.l0]; rw [if_pos (by omega), if_pos (by omega), wrs (by omega), ih k (i + 1) (by omega) (by omega), drop_rdS S i (by omega)]
    by_cases h : rd S (i : Int) = c
    · rw [if_pos h]; simp [h]
    · rw [if_neg h]
      have : ¬ c = rd S (i : Int) := fun e => h e.symm
      simp [this]
theorem laws_contains_eq (S : List Int) (c : Int) (hS : S.length ≤ 1048576) (k : Nat) (hk : S.length < k) : laws_contains.f k S c = some (decide (c ∈ S)) := by
  have := laws_contains_l S c hS S.length k 0 (by omega) hk
  unfold laws_contains.f
  simpa using this
theorem laws_within_l (a b : List Int) (ha : a.length ≤ 1048576) (hb : b.length ≤ 1048576) (h : ∀ x ∈ a, x ∈ b) : ∀ (d k i : Nat), i + d = a.length → d + b.length < k → laws_within.l0 k a b i = some true := by
  intro d
  induction d with
  | zero =>
    intro k i hd hk
    obtain ⟨k, rfl⟩ := rounds_succ hk
    simp only [laws_within.l0]; rw [if_neg (by omega)]
  | succ d ih =>
    intro k i hd hk
    obtain ⟨k, rfl⟩ := rounds_succ hk
    have hm : rd a (i : Int) ∈ b := h _ (by rw [rd_nat a i (by omega)]; exact List.getElem_mem _)
    simp only [laws_within.l0]; rw [if_pos (by omega), if_pos (by omega), laws_contains_eq b _ hb k (by omega), Option.bind_some, if_pos (by simp [hm]), wrs (by omega)]
    exact ih k (i + 1) (by omega) (by omega)
theorem laws_within_yes (a b : List Int) (ha : a.length ≤ 1048576) (hb : b.length ≤ 1048576) (h : ∀ x ∈ a, x ∈ b) (k : Nat) (hk : a.length + b.length < k) : laws_within.f k a b = some true :=
  laws_within_l a b ha hb h a.length k 0 (by omega) (by omega)
theorem freeb_ok {n : Int} {A : List (List Int)} {S : List Int} (h : freeb n A S = true) : isS n A S = true := by
  unfold freeb at h; rw [Bool.and_eq_true] at h; exact h.1
theorem mem_att {n : Int} {A : List (List Int)} (hg : isG n A = true) (c a : Int) : a ∈ att n A c ↔ ∃ p ∈ A, rd p 1 = c ∧ rd p 0 = a := by
  unfold att; rw [if_pos hg]; unfold attA
  simp only [List.mem_map, List.mem_filter, beq_iff_eq]
  constructor
  · rintro ⟨p, ⟨hp, e⟩, rfl⟩; exact ⟨p, hp, e, rfl⟩
  · rintro ⟨p, hp, e, rfl⟩; exact ⟨p, ⟨hp, e⟩, rfl⟩
theorem mem_hitG {n : Int} {A : List (List Int)} {S : List Int} (hg : isG n A = true) (k : Int) : k ∈ hitG n A S ↔ hitb A S k = true := by
  unfold hitG; rw [if_pos hg]; exact mem_hit hg k
theorem freeb_Free {n : Int} {A : List (List Int)} {S : List Int} (h : freeb n A S = true) : Free A S := by
  have hs := freeb_ok h
  have hg := (isS_ok hs).1
  unfold freeb at h
  rw [Bool.and_eq_true, List.all_eq_true] at h
  intro s hm
  have := h.2 s hm
  cases e : hitb A S s with
  | false => rfl
  | true => simp [(mem_hitG hg s).2 e] at this
theorem freeb_mk {n : Int} {A : List (List Int)} {S : List Int} (hs : isS n A S = true) (hf : Free A S) : freeb n A S = true := by
  have hg := (isS_ok hs).1
  unfold freeb
  rw [Bool.and_eq_true, List.all_eq_true]
  refine ⟨hs, fun s hm => ?_⟩
  have : ¬ s ∈ hitG n A S := fun h => by have h1 := (mem_hitG hg s).1 h; rw [hf s hm] at h1; cases h1
  simp [this]
theorem grd_isS {n : Int} {A : List (List Int)} (hg : isG n A = true) : isS n A (grd n A) = true := by
  unfold grd; rw [if_pos hg]; exact ite_isS hg _
theorem grd_dbyG {n : Int} {A : List (List Int)} (hg : isG n A = true) : dbyG n A (grd n A) = grd n A := by
  obtain ⟨m, _, e, em, _⟩ := grd_stop hg
  rw [← em, dbyG_ite hg, e]
theorem grd_comp {n : Int} {A : List (List Int)} (hg : isG n A = true) : compb n A (grd n A) = true := by
  unfold compb
  rw [Bool.and_eq_true, decide_eq_true_eq]
  refine ⟨freeb_mk (grd_isS hg) ?_, grd_dbyG hg⟩
  unfold grd; rw [if_pos hg]; exact ite_free A n _
theorem fr_at (A : List (List Int)) (n c : Int) : ∀ (d j : Nat), (fr A n c d j = -1 ∧ ∀ i, j ≤ i → i < j + d → ¬ c ∈ ite_d A n i) ∨ ∃ i : Nat, j ≤ i ∧ i < j + d ∧ fr A n c d j = i ∧ c ∈ ite_d A n i ∧ ∀ i', j ≤ i' → i' < i → ¬ c ∈ ite_d A n i' := by
  intro d
  induction d with
  | zero => intro j; exact Or.inl ⟨rfl, fun i h1 h2 => by omega⟩
  | succ d ih =>
    intro j
    unfold fr
    by_cases hc : c ∈ ite_d A n j
    · rw [if_pos hc]
      exact Or.inr ⟨j, by omega, by omega, rfl, hc, fun i' h1 h2 => by omega⟩
    · rw [if_neg hc]
      rcases ih (j + 1) with ⟨e, h⟩ | ⟨i, h1, h2, e, h3, h4⟩
      · refine Or.inl ⟨e, fun i h1 h2 => ?_⟩
        by_cases hi : i = j
        · rw [hi]; exact hc
        · exact h i (by omega) (by omega)
      · refine Or.inr ⟨i, by omega, by omega, e, h3, fun i' h5 h6 => ?_⟩
        by_cases hi : i' = j
        · rw [hi]; exact hc
        · exact h4 i' (by omega) h6
theorem rnd_pos {n : Int} {A : List (List Int)} (hg : isG n A = true) (c : Int) (hn : 0 < n) : (rndG n A c > 0) ↔ c ∈ grd n A := by
  unfold rndG grd; rw [if_pos hg, if_pos hg]
  rcases fr_at A n c n.toNat 1 with ⟨e, h⟩ | ⟨i, h1, h2, e, h3, _⟩
  · rw [e]
    exact ⟨fun h => by omega, fun hm => absurd hm (h n.toNat (by omega) (by omega))⟩
  · rw [e]
    refine ⟨fun _ => ?_, fun _ => by omega⟩
    have := ite_mono A n i (n.toNat - i) c h3
    rwa [show i + (n.toNat - i) = n.toNat by omega] at this
theorem mem_ite1 {n : Int} {A : List (List Int)} (hg : isG n A = true) (c : Int) (h0 : 0 ≤ c) (hc : c < n) : c ∈ ite_d A n 1 ↔ att n A c = [] := by
  have he : ite_d A n 1 = dby A n [] := rfl
  rw [he]
  unfold dby
  rw [List.mem_filter, mem_cl, defb_iff]
  constructor
  · rintro ⟨_, h⟩
    cases e : att n A c with
    | nil => rfl
    | cons a R =>
      have ha : a ∈ att n A c := by rw [e]; exact List.mem_cons_self ..
      obtain ⟨p, hp, e1, e2⟩ := (mem_att hg c a).1 ha
      obtain ⟨_, _, _, hz⟩ := (hitb_iff A [] _).1 (h p hp e1)
      cases hz
  · intro e
    refine ⟨⟨h0, hc⟩, fun p hp e1 => ?_⟩
    have : rd p 0 ∈ att n A c := (mem_att hg c _).2 ⟨p, hp, e1, rfl⟩
    rw [e] at this; cases this
theorem rnd_one {n : Int} {A : List (List Int)} (hg : isG n A = true) (c : Int) (h0 : 0 ≤ c) (hc : c < n) : rndG n A c = 1 ↔ att n A c = [] := by
  rw [← mem_ite1 hg c h0 hc]
  unfold rndG; rw [if_pos hg]
  rcases fr_at A n c n.toNat 1 with ⟨e, h⟩ | ⟨i, h1, h2, e, h3, h4⟩
  · rw [e]
    exact ⟨fun h => by omega, fun hm => absurd hm (h 1 (by omega) (by omega))⟩
  · rw [e]
    constructor
    · intro hi
      obtain rfl : i = 1 := by omega
      exact h3
    · intro hm
      by_cases hi : i = 1
      · omega
      · exact absurd hm (h4 1 (by omega) (by omega))
theorem labs_length {n : Int} {A : List (List Int)} (hg : isG n A = true) : (labs n A).length = n.toNat := by
  unfold labs; rw [if_pos hg, List.length_map, cl_length]
theorem labs_at {n : Int} {A : List (List Int)} (hg : isG n A = true) (i : Nat) (hi : (i : Int) < n) : rdOf ByteArray.empty (labs n A) (i : Int) = lab (grd n A) (hitG n A (grd n A)) i := by
  have hl := labs_length hg
  unfold rdOf
  rw [Int.toNat_natCast, List.getD_eq_getElem?_getD, List.getElem?_eq_getElem (by omega)]
  unfold labs
  simp only [if_pos hg, List.getElem_map, Option.getD_some]
  congr 1
  simp [cl]
theorem t_in : wIn.toList = ([105, 110] : List UInt8) := by simp [ByteArray.toList_eq, wIn]
theorem t_out : wOut.toList = ([111, 117, 116] : List UInt8) := by simp [ByteArray.toList_eq, wOut]
theorem t_open : wOpen.toList = ([111, 112, 101, 110] : List UInt8) := by simp [ByteArray.toList_eq, wOpen]
theorem opens_mem (L : List ByteArray) : ∀ (j : Nat) (c : Int), c ∈ opens L j ↔ ∃ i : Nat, i < L.length ∧ c = ((j + i : Nat) : Int) ∧ (rdOf ByteArray.empty L (i : Int)).toList = ([111, 112, 101, 110] : List UInt8) := by
  induction L with
  | nil => intro j c; simp [opens]
  | cons w R ih =>
    intro j c
    have h0 : rdOf ByteArray.empty (w :: R) ((0 : Nat) : Int) = w := rfl
    have hs : ∀ i : Nat, rdOf ByteArray.empty (w :: R) ((i + 1 : Nat) : Int) = rdOf ByteArray.empty R (i : Int) := fun i => by
      unfold rdOf; rw [Int.toNat_natCast, Int.toNat_natCast]; rfl
    have hR := ih (j + 1) c
    simp only [opens]
    constructor
    · intro h
      have h' : (c = (j : Int) ∧ w.toList = ([111, 112, 101, 110] : List UInt8)) ∨ c ∈ opens R (j + 1) := by
        split at h
        · rename_i hw
          rcases List.mem_cons.1 h with e | e
          · exact Or.inl ⟨e, hw⟩
          · exact Or.inr e
        · exact Or.inr h
      rcases h' with ⟨e, hw⟩ | h'
      · exact ⟨0, by simp, by simpa using e, by rw [h0]; exact hw⟩
      · obtain ⟨i, h1, h2, h3⟩ := hR.1 h'
        exact ⟨i + 1, by simp only [List.length_cons]; omega, by rw [h2]; omega, by rw [hs]; exact h3⟩
    · rintro ⟨i, h1, h2, h3⟩
      cases i with
      | zero =>
        rw [h0] at h3
        rw [if_pos h3]
        exact List.mem_cons.2 (Or.inl (by simpa using h2))
      | succ i =>
        rw [hs] at h3
        have := hR.2 ⟨i, by simp only [List.length_cons] at h1; omega, by rw [h2]; omega, h3⟩
        split
        · exact List.mem_cons_of_mem _ this
        · exact this
theorem mem_open {n : Int} {A : List (List Int)} (hg : isG n A = true) (i : Nat) (hi : (i : Int) < n) : (i : Int) ∈ openG n A ↔ (lab (grd n A) (hitG n A (grd n A)) i).toList = ([111, 112, 101, 110] : List UInt8) := by
  have hl := labs_length hg
  unfold openG
  rw [opens_mem]
  constructor
  · rintro ⟨j, _, e, h⟩
    obtain rfl : i = j := by omega
    rwa [labs_at hg i hi] at h
  · intro h
    exact ⟨i, by omega, by omega, by rw [labs_at hg i hi]; exact h⟩
theorem not_both {n : Int} {A : List (List Int)} (hg : isG n A = true) (c : Int) (h : c ∈ grd n A) : ¬ c ∈ hitG n A (grd n A) := by
  intro h2
  rw [mem_hitG hg] at h2
  have hf := freeb_Free (by have := grd_comp hg; unfold compb at this; exact (Bool.and_eq_true _ _ ▸ this).1) c h
  rw [hf] at h2; cases h2
theorem lab_in {n : Int} {A : List (List Int)} (c : Int) : ((lab (grd n A) (hitG n A (grd n A)) c).toList == ([105, 110] : List UInt8)) = decide (c ∈ grd n A) := by
  unfold lab
  by_cases h : c ∈ grd n A
  · rw [if_pos h, t_in, decide_eq_true h]; rfl
  · rw [if_neg h, decide_eq_false h]
    split
    · rw [t_out]; rfl
    · rw [t_open]; rfl
theorem lab_out {n : Int} {A : List (List Int)} (hg : isG n A = true) (c : Int) : ((lab (grd n A) (hitG n A (grd n A)) c).toList == ([111, 117, 116] : List UInt8)) = decide (c ∈ hitG n A (grd n A)) := by
  unfold lab
  by_cases h : c ∈ grd n A
  · rw [if_pos h, t_in, decide_eq_false (not_both hg c h)]; rfl
  · rw [if_neg h]
    by_cases h2 : c ∈ hitG n A (grd n A)
    · rw [if_pos h2, t_out, decide_eq_true h2]; rfl
    · rw [if_neg h2, t_open, decide_eq_false h2]; rfl
theorem lab_open {n : Int} {A : List (List Int)} (hg : isG n A = true) (i : Nat) (hi : (i : Int) < n) : ((lab (grd n A) (hitG n A (grd n A)) i).toList == ([111, 112, 101, 110] : List UInt8)) = decide ((i : Int) ∈ openG n A) := by
  rw [Bool.eq_iff_iff, beq_iff_eq, decide_eq_true_eq, mem_open hg i hi]
theorem dComplete (b : List Int) (hb : b.length ≤ 1048576) (k : Nat) (hk : b.length + 7100 < k) : ∃ n A S, spec_DrawIsComplete.f k b = some (n, A, S) ∧ A.length ≤ 11 ∧ S.length ≤ 13 := by
  unfold spec_DrawIsComplete.f
  obtain ⟨n, A, S, e, hs, hS⟩ := dSet b hb k hk
  have hA := hs.1
  rw [e, Option.bind_some]; simp only []
  obtain ⟨h0, e0⟩ := l1New_eq b hb k (by omega)
  have c0 : Cur b 0 := by unfold Cur; omega
  rw [e0, Option.bind_some]; simp only []
  obtain ⟨x, i1, k1, e1, _⟩ := l1Once_eq b hb 0 h0 c0 2
  rw [e1, Option.bind_some]; simp only []
  cases x with
  | true =>
    have hl := grd_len n A
    rw [if_pos rfl, spec_Grounded_eq n A (by omega) k (by omega), Option.bind_some]
    exact ⟨n, A, _, rfl, hA, by omega⟩
  | false =>
    rw [if_neg (by simp)]
    exact ⟨n, A, S, rfl, hA, hS⟩
theorem comp_grd {n : Int} {A : List (List Int)} {S : List Int} (h : compb n A S = true) : ∀ x ∈ grd n A, x ∈ S := by
  unfold compb at h
  rw [Bool.and_eq_true, decide_eq_true_eq] at h
  obtain ⟨hf, he⟩ := h
  have hs := freeb_ok hf
  have hg := (isS_ok hs).1
  rw [dbyG_dby hs] at he
  unfold grd; rw [if_pos hg]
  exact ite_in A n S (fun x hx => by rwa [he] at hx) _
theorem last_part (b : List Int) (hb : b.length ≤ 1048576) (k : Nat) (hk : b.length + 8000 < k) : ((spec_DrawIsComplete.f k b).bind fun bt599 => ((impl_IsComplete.f k bt599.1 bt599.2.1 bt599.2.2).bind fun t607 => (if t607 = true then ((impl_Grounded.f k bt599.1 bt599.2.1).bind fun t608 => ((laws_within.f k t608 bt599.2.2).bind fun t611 => (some t611))) else (some true)))) = some true := by
  obtain ⟨n, A, S, e, hA, hS⟩ := dComplete b hb k (by omega)
  have hl := grd_len n A
  rw [e, Option.bind_some]; simp only []
  rw [impl_IsComplete_eq n A S (by omega) (by omega) k (by omega), Option.bind_some]
  by_cases h : compb n A S = true
  · rw [if_pos h, impl_Grounded_eq n A (by omega) k (by omega), Option.bind_some, laws_within_yes _ _ (by omega) (by omega) (comp_grd h) k (by omega), Option.bind_some]
  · rw [if_neg h]
theorem gr_l0 (b : List Int) (hb : b.length ≤ 1048576) (n : Int) (A : List (List Int)) (hA : A.length ≤ 100) (hg : isG n A = true) : ∀ (d k i : Nat), i + d = n.toNat → d + b.length + 9000 < k → laws_FnGrounded.l0 k b (grd n A) (labs n A) (openG n A) i n A = some true := by
  have hn := (isG_ok hg).1
  have hl := grd_len n A
  have hh := hitG_len n A (grd n A)
  have ho := openG_len n A
  have hL := labs_length hg
  intro d
  induction d with
  | zero =>
    intro k i hd hk
    obtain ⟨k, rfl⟩ := rounds_succ hk
    simp only [laws_FnGrounded.l0]; rw [if_neg (by omega)]
    exact last_part b hb k (by omega)
  | succ d ih =>
    intro k i hd hk
    obtain ⟨k, rfl⟩ := rounds_succ hk
    simp only [laws_FnGrounded.l0]
    rw [if_pos (by omega), impl_RoundOf_eq n A i (by omega) k (by omega), Option.bind_some, if_pos (by omega), if_pos (by omega),
      laws_contains_eq _ _ (by omega) k (by omega), Option.bind_some, labs_at hg i (by omega), lab_in, if_neg (by simp),
      impl_HitBy_eq n A _ (by omega) (by omega) k (by omega), Option.bind_some, laws_contains_eq _ _ (by omega) k (by omega), Option.bind_some, lab_out hg, if_neg (by simp),
      laws_contains_eq _ _ (by omega) k (by omega), Option.bind_some, lab_open hg i (by omega), if_neg (by simp),
      Option.bind_some]
    have h1 : decide (rndG n A i > 0) = decide ((i : Int) ∈ grd n A) := by
      rw [Bool.eq_iff_iff, decide_eq_true_eq, decide_eq_true_eq]; exact rnd_pos hg i (by omega)
    have h2 : (rndG n A i == 1) = (((att n A i).length : Int) == 0) := by
      rw [Bool.eq_iff_iff, beq_iff_eq, beq_iff_eq, rnd_one hg i (by omega) (by omega), ← List.length_eq_zero_iff]; omega
    rw [h1, if_neg (by simp), impl_AttackersOf_eq n A i (by omega) k (by omega), Option.bind_some, h2, if_neg (by simp), wrs (by omega)]
    exact ih k (i + 1) (by omega) (by omega)
theorem FnGrounded : laws_FnGrounded.Pure := by
  intro b _ _ _
  obtain ⟨K, hK⟩ : ∃ K, K = b.length + 20000 := ⟨_, rfl⟩
  refine ⟨K, ?_⟩
  unfold laws_FnGrounded.f laws_big.f
  rw [Option.bind_some]
  by_cases hb : b.length ≤ 1048576
  · rw [if_neg (by simp; omega)]
    have hd : ∃ n A, spec_DrawGrounded.f K b = some (n, A) ∧ Sm 11 A := by
      unfold spec_DrawGrounded.f spec_DrawIsGraph.f
      obtain ⟨h0, e0⟩ := l1New_eq b hb K (by omega)
      have c0 : Cur b 0 := by unfold Cur; omega
      rw [e0, Option.bind_some]; simp only []
      obtain ⟨n, A, i1, k1, e1, hs, g1⟩ := l4Any_eq b hb 0 h0 c0 K (by omega)
      rw [e1, Option.bind_some, Option.bind_some]
      exact ⟨n, A, rfl, hs⟩
    obtain ⟨n, A, e, hs⟩ := hd
    have hA := hs.1
    have hl := grd_len n A
    rw [e, Option.bind_some]; simp only []
    rw [impl_Grounded_eq n A (by omega) K (by omega), Option.bind_some, impl_Labels_eq n A (by omega) K (by omega), Option.bind_some, impl_IsGraph_eq n A (by omega) K (by omega), Option.bind_some, spec_IsGraph_eq n A (by omega) K (by omega), Option.bind_some, if_neg (by simp), Option.bind_some]
    by_cases hg : isG n A = true
    · have hn := (isG_ok hg).1
      have hL := labs_length hg
      rw [if_pos hg, impl_IsComplete_eq n A _ (by omega) (by omega) K (by omega), Option.bind_some, if_pos (grd_comp hg)]
      have hz : (((labs n A).length : Int) != n) = false := by rw [hL]; simp; omega
      rw [hz]
      obtain ⟨K2, hK2⟩ : ∃ K2, K = K2 + 1 := ⟨b.length + 19999, by omega⟩
      subst hK2
      simp only [laws_FnGrounded.j0]
      rw [if_neg (by simp), impl_OpenClaims_eq n A (by omega) K2 (by omega), Option.bind_some]
      exact gr_l0 b hb n A (by omega) hg n.toNat K2 0 (by omega) (by omega)
    · have e1 : grd n A = [] := by unfold grd; rw [if_neg hg]
      have e2 : labs n A = [] := by unfold labs; rw [if_neg hg]
      rw [if_neg hg, e1, e2]; rfl
  · rw [if_pos (by simp; omega)]
end Go.Proofs.Ytelkfhlnejlheaa.Pure
