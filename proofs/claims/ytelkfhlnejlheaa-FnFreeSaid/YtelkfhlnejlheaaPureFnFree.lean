/- Whoever is free and attacks all others is admissible, and greater sets defend more, for all inputs of the law. Conditions: none. -/
import Derived.Test.YtelkfhlnejlheaaGFnFreex13
import Derived.OpenShut
namespace Go.Proofs.Ytelkfhlnejlheaa.Pure
open Go.RowKit Go.Proofs.Ytelkfhlnejlheaa.GFnFree Go.Proofs.YtelkfhlnejlheaaW.PrintWords Go.Proofs.YtelkfhlnejlheaaW.PrintLast
theorem wr {i : Int} (h0 : -9223372036854775808 ≤ i) (h : i ≤ 9223372036854775807) : wrap64 i = i := by unfold wrap64; omega
theorem wrs {i : Nat} (h : i < 9223372036854775807) : wrap64 ((i : Int) + 1) = ((i + 1 : Nat) : Int) := by unfold wrap64; omega
theorem rd_nat (l : List Int) (i : Nat) (h : i < l.length) : rd l (i : Int) = l[i] := by simp [rd, h]
theorem rounds_succ {d k : Nat} (h : d < k) : ∃ m, k = m + 1 := ⟨k - 1, by omega⟩
theorem rdL_nat (l : List (List Int)) (i : Nat) (h : i < l.length) : rd_L1 l (i : Int) = l[i] := by simp [rd_L1, h]
theorem rdL_mem (l : List (List Int)) (i : Nat) (h : i < l.length) : rd_L1 l (i : Int) ∈ l := by rw [rdL_nat l i h]; exact List.getElem_mem h
theorem rdL_drop (l : List (List Int)) (i : Nat) (h : i < l.length) : l.drop i = rd_L1 l (i : Int) :: l.drop (i + 1) := by rw [rdL_nat l i h]; exact List.drop_eq_getElem_cons h
def okE (w : Int) (p : List Int) : Bool := decide (p.length = 2 ∧ (0 ≤ rd p 0 ∧ rd p 0 ≤ w) ∧ (0 ≤ rd p 1 ∧ rd p 1 ≤ w))
def lexlt (p q : List Int) : Bool := decide (rd p 0 < rd q 0 ∨ (rd p 0 = rd q 0 ∧ rd p 1 < rd q 1))
def gl (w : Int) : Option (List Int) → List (List Int) → Bool
  | _, [] => true
  | prev, p :: R => okE w p && (match prev with | none => true | some q => lexlt q p) && gl w (some p) R
def isG (n : Int) (A : List (List Int)) : Bool := decide (0 ≤ n ∧ n ≤ 10) && gl (n - 1) none A
theorem gl_ok (w : Int) (R : List (List Int)) : ∀ prev, gl w prev R = true → ∀ p ∈ R, okE w p = true := by
  induction R with
  | nil => intro prev _ p hp; cases hp
  | cons q R ih =>
    intro prev h p hp
    simp only [gl, Bool.and_eq_true] at h
    rcases List.mem_cons.1 hp with e | e
    · rw [e]; exact h.1.1
    · exact ih _ h.2 p e
theorem isG_ok {n : Int} {A : List (List Int)} (h : isG n A = true) : (0 ≤ n ∧ n ≤ 10) ∧ ∀ p ∈ A, p.length = 2 ∧ (0 ≤ rd p 0 ∧ rd p 0 < n) ∧ (0 ≤ rd p 1 ∧ rd p 1 < n) := by
  unfold isG at h
  simp only [Bool.and_eq_true, decide_eq_true_eq] at h
  refine ⟨h.1, fun p hp => ?_⟩
  have := gl_ok _ _ _ h.2 p hp
  unfold okE at this
  have := of_decide_eq_true this
  omega
def prevOf (A : List (List Int)) (i : Nat) : Option (List Int) := if i = 0 then none else some (rd_L1 A ((i - 1 : Nat) : Int))
theorem prevOf_succ (A : List (List Int)) (i : Nat) : prevOf A (i + 1) = some (rd_L1 A (i : Int)) := by unfold prevOf; rw [if_neg (by omega)]; rfl
theorem spec_l1In_eq (a b c : Int) : spec_l1In.f a b c = some (decide (b ≤ a ∧ a ≤ c)) := by
  unfold spec_l1In.f; by_cases h : b ≤ a <;> simp [h]
theorem spec_IsGraph_l (n : Int) (A : List (List Int)) (hA : A.length ≤ 1048576) : ∀ (d k i : Nat), i + d = A.length → (∀ j, j < i → (rd_L1 A (j : Int)).length = 2) → 2 * d + 1 < k →
    spec_IsGraph.l0 k i n A = some (gl (wrap64 (n - 1)) (prevOf A i) (A.drop i) && decide (0 ≤ n ∧ n ≤ 10)) := by
  generalize hw : wrap64 (n - 1) = w
  intro d
  induction d with
  | zero =>
    intro k i hd hp hk
    obtain ⟨k, rfl⟩ := rounds_succ hk
    simp only [spec_IsGraph.l0]; rw [if_neg (by omega), List.drop_eq_nil_of_le (by omega), spec_l1In_eq, Option.bind_some]
    simp [gl]
  | succ d ih =>
    intro k i hd hp hk
    obtain ⟨k, rfl⟩ := rounds_succ hk
    obtain ⟨k, rfl⟩ := rounds_succ (show 0 < k by omega)
    simp only [spec_IsGraph.l0]; rw [if_pos (by omega), if_pos (by omega), hw, rdL_drop A i (by omega)]
    simp only [gl]
    generalize hq : rd_L1 A (i : Int) = p
    by_cases h2 : p.length = 2
    · rw [if_pos (by omega), if_pos (by omega), spec_l1In_eq, Option.bind_some]
      by_cases h3 : 0 ≤ rd p 0 ∧ rd p 0 ≤ w
      · rw [if_pos (by simp [h3]), if_pos (by omega), spec_l1In_eq, Option.bind_some]
        by_cases h4 : 0 ≤ rd p 1 ∧ rd p 1 ≤ w
        · have hok : okE w p = true := by unfold okE; simp [h2, h3, h4]
          have hnext := ih k (i + 1) (by omega) (fun j hj => by
            by_cases e : j = i
            · rw [e, hq]; exact h2
            · exact hp j (by omega)) (by omega)
          rw [prevOf_succ, hq] at hnext
          simp only [spec_IsGraph.j1, hok, Bool.true_and]
          rw [if_neg (by simp [h4])]
          by_cases hi : i = 0
          · subst hi
            rw [if_neg (by omega)]
            rw [show wrap64 (((0 : Nat) : Int) + 1) = ((0 + 1 : Nat) : Int) from wrs (by omega), hnext]
            simp [prevOf]
          · have e1 : prevOf A i = some (rd_L1 A ((i - 1 : Nat) : Int)) := by unfold prevOf; rw [if_neg hi]
            have hl := hp (i - 1) (by omega)
            rw [e1]
            rw [if_pos (by omega), show wrap64 ((i : Int) - 1) = ((i - 1 : Nat) : Int) by rw [wr (by omega) (by omega)]; omega]
            generalize rd_L1 A ((i - 1 : Nat) : Int) = q at hl ⊢
            rw [if_pos (by omega), if_pos (by omega), if_pos (by omega), if_pos (by omega), wrs (by omega), hnext]
            by_cases h5 : rd q 0 > rd p 0
            · rw [if_pos h5]
              have : lexlt q p = false := by unfold lexlt; simp; omega
              simp [this]
            · rw [if_neg h5]
              by_cases h6 : rd q 0 = rd p 0
              · rw [if_pos h6, if_pos (by omega), if_pos (by omega)]
                by_cases h7 : rd q 1 ≥ rd p 1
                · rw [if_pos h7]
                  have : lexlt q p = false := by unfold lexlt; simp; omega
                  simp [this]
                · rw [if_neg h7]
                  have : lexlt q p = true := by unfold lexlt; simp; omega
                  simp [this]
              · rw [if_neg h6]
                have : lexlt q p = true := by unfold lexlt; simp; omega
                simp [this]
        · have hok : okE w p = false := by unfold okE; simp; omega
          simp only [spec_IsGraph.j1, hok, Bool.false_and]
          rw [if_pos (by simp; omega)]
      · have hok : okE w p = false := by unfold okE; simp; omega
        rw [if_neg (by simp; omega)]
        simp [spec_IsGraph.j1, hok]
    · have hok : okE w p = false := by unfold okE; simp [h2]
      rw [if_neg (by omega)]
      simp [spec_IsGraph.j1, hok]
theorem spec_IsGraph_eq (n : Int) (A : List (List Int)) (hA : A.length ≤ 1048576) (k : Nat) (hk : 2 * A.length + 1 < k) : spec_IsGraph.f k n A = some (isG n A) := by
  have := spec_IsGraph_l n A hA A.length k 0 (by omega) (fun j hj => by omega) hk
  unfold spec_IsGraph.f isG
  rw [show ((0 : Nat) : Int) = 0 from rfl] at this
  rw [this]
  by_cases h : 0 ≤ n ∧ n ≤ 10
  · rw [wr (i := n - 1) (by omega) (by omega)]; simp [h, prevOf]
  · simp [h]
def ins (a b : Int) : List (List Int) → List (List Int)
  | [] => [[a, b]]
  | x :: R => if rd x 0 > a ∨ (rd x 0 = a ∧ rd x 1 > b) then [a, b] :: x :: R else x :: ins a b R
theorem ins_len (a b : Int) (R : List (List Int)) : (ins a b R).length = R.length + 1 := by
  induction R with
  | nil => rfl
  | cons x R ih => unfold ins; split <;> simp [ih]
theorem ins_mem (a b : Int) (R : List (List Int)) : ∀ r ∈ ins a b R, r = [a, b] ∨ r ∈ R := by
  induction R with
  | nil => intro r hr; simp [ins] at hr; exact .inl hr
  | cons x R ih =>
    intro r hr
    unfold ins at hr
    split at hr
    · rcases List.mem_cons.1 hr with e | e
      · exact .inl e
      · exact .inr e
    · rcases List.mem_cons.1 hr with e | e
      · exact .inr (by rw [e]; exact List.mem_cons_self)
      · rcases ih r e with h | h
        · exact .inl h
        · exact .inr (List.mem_cons_of_mem _ h)
def fin (n : Int) (A O : List (List Int)) : Int × List (List Int) × Bool := if (isG n A && isG n O) = true then (n, O, true) else (n, A, false)
theorem take_snoc (A : List (List Int)) (i : Nat) (h : i < A.length) : A.take i ++ [rd_L1 A (i : Int)] = A.take (i + 1) := by
  rw [rdL_nat A i h, List.take_succ_eq_append_getElem h]
theorem l4Copy_l (n : Int) (A : List (List Int)) (hA : A.length ≤ 1048576) (hr : ∀ r ∈ A, r.length ≤ 1048576) : ∀ (d k i : Nat), i + d = A.length → d < k → spec_l4Copy.l0 k i n A n (A.take i) = some (n, A) := by
  intro d
  induction d with
  | zero =>
    intro k i hd hk
    obtain ⟨k, rfl⟩ := rounds_succ hk
    simp only [spec_l4Copy.l0]; rw [if_neg (by omega), List.take_of_length_le (by omega)]
  | succ d ih =>
    intro k i hd hk
    obtain ⟨k, rfl⟩ := rounds_succ hk
    have hm := hr _ (rdL_mem A i (by omega))
    simp only [spec_l4Copy.l0]; rw [if_pos (by omega), Option.bind_some, if_pos (by omega), if_pos (by simp only [List.length_nil]; omega), if_pos (by rw [List.length_take]; omega), wrs (by omega), List.nil_append, take_snoc A i (by omega)]
    exact ih k (i + 1) (by omega) (by omega)
theorem l4Copy_eq (n : Int) (A : List (List Int)) (hA : A.length ≤ 1048576) (hr : ∀ r ∈ A, r.length ≤ 1048576) (k : Nat) (hk : A.length < k) : spec_l4Copy.f k n A = some (n, A) :=
  l4Copy_l n A hA hr A.length k 0 (by omega) hk
theorem add_j2 (n : Int) (A O : List (List Int)) (hA : A.length ≤ 1000000) (hr : ∀ r ∈ A, r.length ≤ 1048576) (hO : O.length ≤ 1048576) (k : Nat) (hk : 2 * A.length + 2 * O.length + 10 < k) : spec_AddAttack.j2 k n A n O = some (fin n A O) := by
  obtain ⟨k, rfl⟩ := rounds_succ hk
  simp only [spec_AddAttack.j2]
  rw [spec_IsGraph_eq n A (by omega) k (by omega), Option.bind_some]
  unfold fin
  by_cases h1 : isG n A = true
  · rw [if_pos h1, spec_IsGraph_eq n O hO k (by omega), Option.bind_some]
    by_cases h2 : isG n O = true
    · rw [if_pos h2, if_pos (by simp [h1, h2])]
    · rw [if_neg h2, if_neg (by simp [h2]), l4Copy_eq n A (by omega) hr k (by omega), Option.bind_some]
  · rw [if_neg h1, if_neg (by simp [h1]), l4Copy_eq n A (by omega) hr k (by omega), Option.bind_some]
theorem add_done (n : Int) (A : List (List Int)) (a b : Int) (hA : A.length ≤ 1000000) (hg : isG n A = true) : ∀ (d k i : Nat) (O : List (List Int)), i + d = A.length → O.length ≤ i + 1 → 2 * d + 4 * A.length + 50 < k → spec_AddAttack.l0 k a b true i n A n O = some (fin n A (O ++ A.drop i)) := by
  have hr2 := (isG_ok hg).2
  intro d
  induction d with
  | zero =>
    intro k i O hd hO hk
    obtain ⟨k, rfl⟩ := rounds_succ hk
    obtain ⟨k, rfl⟩ := rounds_succ (show 0 < k by omega)
    simp only [spec_AddAttack.l0, spec_AddAttack.j1]; rw [if_neg (by omega), if_neg (by simp), if_pos trivial, List.drop_eq_nil_of_le (by omega), List.append_nil]
    exact add_j2 n A O hA (fun r h => by have := (hr2 r h).1; omega) (by omega) k (by omega)
  | succ d ih =>
    intro k i O hd hO hk
    obtain ⟨k, rfl⟩ := rounds_succ hk
    obtain ⟨k, rfl⟩ := rounds_succ (show 0 < k by omega)
    have hm := (hr2 _ (rdL_mem A i (by omega))).1
    simp only [spec_AddAttack.l0]; rw [if_pos (by omega), spec_IsGraph_eq n A (by omega) (k + 1) (by omega), Option.bind_some, hg]
    simp only [spec_AddAttack.j1]; rw [if_pos trivial, if_pos (by omega), if_pos (by omega), if_pos trivial, Option.bind_some, if_pos (by simp only [List.length_nil]; omega), if_pos (by omega), wrs (by omega), List.nil_append, ih k (i + 1) _ (by omega) (by rw [List.length_append, List.length_singleton]; omega) (by omega), rdL_drop A i (by omega), List.append_assoc]
    rfl
theorem add_go (n : Int) (A : List (List Int)) (a b : Int) (hA : A.length ≤ 1000000) (hg : isG n A = true) : ∀ (d k i : Nat), i + d = A.length → 2 * d + 4 * A.length + 60 < k → spec_AddAttack.l0 k a b false i n A n (A.take i) = some (fin n A (A.take i ++ ins a b (A.drop i))) := by
  have hr2 := (isG_ok hg).2
  intro d
  induction d with
  | zero =>
    intro k i hd hk
    obtain ⟨k, rfl⟩ := rounds_succ hk
    obtain ⟨k, rfl⟩ := rounds_succ (show 0 < k by omega)
    have hl : (A.take i).length = i := by rw [List.length_take]; omega
    simp only [spec_AddAttack.l0, spec_AddAttack.j1]; rw [if_neg (by omega), if_neg (by simp), if_neg (by simp), if_pos (by omega), List.drop_eq_nil_of_le (by omega)]
    exact add_j2 n A _ hA (fun r h => by have := (hr2 r h).1; omega) (by rw [List.length_append, List.length_singleton]; omega) k (by rw [List.length_append, List.length_singleton]; omega)
  | succ d ih =>
    intro k i hd hk
    obtain ⟨k, rfl⟩ := rounds_succ hk
    obtain ⟨k, rfl⟩ := rounds_succ (show 0 < k by omega)
    have hl : (A.take i).length = i := by rw [List.length_take]; omega
    have hm := (hr2 _ (rdL_mem A i (by omega))).1
    have hput : spec_AddAttack.l0 k a b true ((i + 1 : Nat) : Int) n A n (A.take i ++ [([a, b] : List Int)] ++ [rd_L1 A (i : Int)]) = some (fin n A (A.take i ++ ([a, b] :: A.drop i))) := by
      rw [add_done n A a b hA hg d k (i + 1) _ (by omega) (by simp only [List.length_append, List.length_singleton]; omega) (by omega), rdL_drop A i (by omega)]
      simp [List.append_assoc]
    have hgo := ih k (i + 1) (by omega) (by omega)
    rw [← take_snoc A i (by omega)] at hgo
    simp only [spec_AddAttack.l0]; rw [if_pos (by omega), spec_IsGraph_eq n A (by omega) (k + 1) (by omega), Option.bind_some, hg]
    rw [rdL_drop A i (by omega)] at hput ⊢
    simp only [spec_AddAttack.j1]
    generalize rd_L1 A (i : Int) = x at hm hput hgo ⊢
    rw [if_pos trivial, if_pos (by omega), if_pos (by omega), if_neg (by simp), if_pos (by omega)]
    simp only [Option.bind_some, List.nil_append]
    unfold ins
    by_cases h1 : rd x 0 > a
    · rw [if_pos h1, if_pos (by omega), if_pos (by simp only [List.length_nil]; omega), if_pos (by simp only [List.length_append, List.length_singleton]; omega), wrs (by omega), if_pos (.inl h1)]
      exact hput
    · rw [if_neg h1]
      by_cases h2 : rd x 0 = a
      · rw [if_pos h2, if_pos (by omega)]
        by_cases h3 : rd x 1 > b
        · rw [if_pos h3, if_pos (by omega), if_pos (by simp only [List.length_nil]; omega), if_pos (by simp only [List.length_append, List.length_singleton]; omega), wrs (by omega), if_pos (.inr ⟨h2, h3⟩)]
          exact hput
        · rw [if_neg h3, if_pos (by simp only [List.length_nil]; omega), if_pos (by omega), wrs (by omega), if_neg (by omega), hgo]
          simp [List.append_assoc]
      · rw [if_neg h2, if_pos (by simp only [List.length_nil]; omega), if_pos (by omega), wrs (by omega), if_neg (by omega), hgo]
        simp [List.append_assoc]
theorem spec_AddAttack_eq (n : Int) (A : List (List Int)) (a b : Int) (hA : A.length ≤ 1000000) (hr : ∀ r ∈ A, r.length ≤ 1048576) (k : Nat) (hk : 6 * A.length + 70 < k) : spec_AddAttack.f k n A a b = some (fin n A (ins a b A)) := by
  unfold spec_AddAttack.f
  by_cases hg : isG n A = true
  · have := add_go n A a b hA hg A.length k 0 (by omega) (by omega)
    simpa using this
  · have hf : isG n A = false := by simpa using hg
    obtain ⟨k, rfl⟩ := rounds_succ hk
    obtain ⟨k, rfl⟩ := rounds_succ (show 0 < k by omega)
    have hj := add_j2 n A ([] ++ [[a, b]]) hA hr (by simp) k (by simp; omega)
    have e : fin n A ([] ++ [[a, b]]) = fin n A (ins a b A) := by unfold fin; rw [hf]; rfl
    rw [e] at hj
    have hj1 : spec_AddAttack.j1 (k + 1) a b false 0 false n A n [] = some (fin n A (ins a b A)) := by
      simp only [spec_AddAttack.j1]
      rw [if_neg (by simp), if_neg (by simp), if_pos (by simp)]
      exact hj
    simp only [spec_AddAttack.l0]
    rw [spec_IsGraph_eq n A (by omega) (k + 1) (by omega), Option.bind_some, hf]
    split <;> exact hj1
theorem tmod_nn (a b : Int) (ha : 0 ≤ a) : a.tmod b = a % b := by rw [Int.tmod_eq_emod, if_pos (.inl ha)]; omega
theorem and255 (y : Int) : 0 ≤ Go.bits .and .i64 y 255 ∧ Go.bits .and .i64 y 255 ≤ 255 := by
  have h : ((BitVec.ofInt 64 y &&& BitVec.ofInt 64 255).toNat) ≤ 255 := by
    rw [BitVec.toNat_and]
    exact Nat.and_le_right
  have e : Go.bits .and .i64 y 255 = IntKind.i64.wrap ((BitVec.ofInt 64 y &&& BitVec.ofInt 64 255).toNat : Int) := rfl
  rw [e]
  generalize (BitVec.ofInt 64 y &&& BitVec.ofInt 64 255).toNat = m at h
  rw [IntKind.wrap_i64]; omega
theorem l1New_l (b : List Int) (_hb : b.length ≤ 1048576) : ∀ (d k i : Nat) (h : Int), i + d = b.length → d < k → ∃ h', spec_l1New.l0 k b h i = some (b, 0, h') := by
  intro d
  induction d with
  | zero =>
    intro k i h hd hk
    obtain ⟨k, rfl⟩ := rounds_succ hk
    simp only [spec_l1New.l0]; rw [if_neg (by omega)]
    exact ⟨h, rfl⟩
  | succ d ih =>
    intro k i h hd hk
    obtain ⟨k, rfl⟩ := rounds_succ hk
    simp only [spec_l1New.l0]; rw [if_pos (by omega)]
    by_cases h4 : (i : Int) < 4000
    · rw [if_pos h4, if_pos (by omega), wrs (by omega)]
      exact ih k (i + 1) _ (by omega) (by omega)
    · rw [if_neg h4]
      exact ⟨h, rfl⟩
theorem l1New_eq (b : List Int) (hb : b.length ≤ 1048576) (k : Nat) (hk : b.length < k) : ∃ h', spec_l1New.f k b = some (b, 0, h') :=
  l1New_l b hb b.length k 0 _ (by omega) hk
def Cur (b : List Int) (i : Int) : Prop := 0 ≤ i ∧ i ≤ (b.length : Int)
theorem l1Byte_eq (b : List Int) (hb : b.length ≤ 1048576) (i h : Int) (hc : Cur b i) : ∃ x i' h', spec_l1Byte.f b i h = some (x, i', h') ∧ 0 ≤ x ∧ x ≤ 255 ∧ Cur b i' := by
  unfold Cur at *
  unfold spec_l1Byte.f
  by_cases h1 : i < (b.length : Int)
  · rw [if_pos h1, if_pos hc.1]
    exact ⟨_, _, _, rfl, (and255 _).1, (and255 _).2, by rw [wr (by omega) (by omega)]; omega⟩
  · rw [if_neg h1]
    exact ⟨_, _, _, rfl, (and255 _).1, (and255 _).2, hc⟩
theorem l1Below_eq (b : List Int) (hb : b.length ≤ 1048576) (i h : Int) (hc : Cur b i) (n : Int) : ∃ x i' h', spec_l1Below.f b i h n = some (x, i', h') ∧ 0 ≤ x ∧ (x < n ∨ (n ≤ 0 ∧ x = 0)) ∧ Cur b i' := by
  unfold spec_l1Below.f
  by_cases h0 : n ≤ 0
  · rw [if_pos h0]; exact ⟨0, i, h, rfl, by omega, .inr ⟨h0, rfl⟩, hc⟩
  · rw [if_neg h0]
    by_cases h1 : n ≤ 256
    · obtain ⟨x, i1, k1, e, g1, g2, g3⟩ := l1Byte_eq b hb i h hc
      rw [if_pos h1, e, Option.bind_some, if_neg (by omega)]
      simp only []
      rw [tmod_nn _ _ g1]
      exact ⟨_, i1, k1, rfl, Int.emod_nonneg _ (by omega), .inl (Int.emod_lt_of_pos _ (by omega)), g3⟩
    · obtain ⟨x, i1, k1, e, g1, g2, g3⟩ := l1Byte_eq b hb i h hc
      obtain ⟨y, i2, k2, e2, p1, p2, p3⟩ := l1Byte_eq b hb i1 k1 g3
      obtain ⟨z, i3, k3, e3, q1, q2, q3⟩ := l1Byte_eq b hb i2 k2 p3
      rw [if_neg h1, e, Option.bind_some]
      simp only []
      rw [e2, Option.bind_some]
      simp only []
      rw [e3, Option.bind_some, if_neg (by omega)]
      simp only []
      rw [wr (i := x * 65536) (by omega) (by omega), wr (i := y * 256) (by omega) (by omega), wr (i := x * 65536 + _) (by omega) (by omega), wr (by omega) (by omega), tmod_nn _ _ (by omega)]
      exact ⟨_, i3, k3, rfl, Int.emod_nonneg _ (by omega), .inl (Int.emod_lt_of_pos _ (by omega)), q3⟩
theorem l1Int_eq (b : List Int) (hb : b.length ≤ 1048576) (c h : Int) (hc : Cur b c) (l : List Int) (h0 : 0 < l.length) : ∃ x c' h', spec_l1Int.f b c h l = some (x, c', h') ∧ x ∈ l ∧ Cur b c' := by
  unfold spec_l1Int.f
  obtain ⟨x, i1, k1, e, g1, g2, g3⟩ := l1Below_eq b hb c h hc (l.length : Int)
  rw [e, Option.bind_some]
  simp only []
  rw [if_pos g1, if_pos (by omega)]
  refine ⟨_, i1, k1, rfl, ?_, g3⟩
  have := rd_nat l x.toNat (by omega)
  rw [show ((x.toNat : Nat) : Int) = x by omega] at this
  rw [this]; exact List.getElem_mem _
theorem l1Once_eq (b : List Int) (hb : b.length ≤ 1048576) (c h : Int) (hc : Cur b c) (n : Int) : ∃ (x : Bool) (c' h' : Int), spec_l1Once.f b c h n = some (x, c', h') ∧ Cur b c' := by
  unfold spec_l1Once.f
  obtain ⟨x, i1, k1, e, g1, g2, g3⟩ := l1Below_eq b hb c h hc n
  rw [e, Option.bind_some]
  exact ⟨_, i1, k1, rfl, g3⟩
def Sm (m : Nat) (A : List (List Int)) : Prop := A.length ≤ m ∧ ∀ r ∈ A, r.length ≤ 2
theorem fin_sm {n : Int} {A : List (List Int)} {a b : Int} {m : Nat} (h : Sm m A) : ∃ A' ok, fin n A (ins a b A) = (n, A', ok) ∧ Sm (m + 1) A' := by
  unfold fin
  split
  · refine ⟨_, _, rfl, by rw [ins_len]; have := h.1; omega, fun r hr => ?_⟩
    rcases ins_mem a b A r hr with e | e
    · rw [e]; simp
    · exact h.2 r e
  · exact ⟨_, _, rfl, by have := h.1; omega, h.2⟩
theorem l4Draw_l (b : List Int) (hb : b.length ≤ 1048576) (n : Int) : ∀ (d k : Nat) (c h : Int) (A : List (List Int)) (m : Nat), Cur b c → Sm m A → m + d ≤ 1000 → d + 6100 < k → ∃ A' c' h', spec_l4Draw.l0 k d b c h n A = some (n, A', c', h') ∧ Sm (m + d) A' ∧ Cur b c' := by
  intro d
  induction d with
  | zero =>
    intro k c h A m hc hs hm hk
    obtain ⟨k, rfl⟩ := rounds_succ hk
    simp only [spec_l4Draw.l0]; rw [if_neg (by omega)]
    exact ⟨A, c, h, rfl, hs, hc⟩
  | succ d ih =>
    intro k c h A m hc hs hm hk
    obtain ⟨k, rfl⟩ := rounds_succ hk
    obtain ⟨x, i1, k1, e1, _, _, g3⟩ := l1Below_eq b hb c h hc n
    obtain ⟨y, i2, k2, e2, _, _, p3⟩ := l1Below_eq b hb i1 k1 g3 n
    have h1 := hs.1
    obtain ⟨A', ok, e3, hs'⟩ := fin_sm (n := n) (a := x) (b := y) hs
    simp only [spec_l4Draw.l0]; rw [if_pos (by omega), e1, Option.bind_some]; simp only []
    rw [e2, Option.bind_some]; simp only []
    rw [spec_AddAttack_eq n A x y (by omega) (fun r hr => by have := hs.2 r hr; omega) k (by omega), Option.bind_some, e3]; simp only []
    rw [show wrap64 (((d + 1 : Nat) : Int) - 1) = (d : Int) by rw [wr (by omega) (by omega)]; omega]
    obtain ⟨A2, c2, h2, q1, q2, q3⟩ := ih k i2 k2 A' (m + 1) p3 hs' (by omega) (by omega)
    exact ⟨A2, c2, h2, q1, by rw [show m + (d + 1) = m + 1 + d by omega]; exact q2, q3⟩
theorem l4Draw_eq (b : List Int) (hb : b.length ≤ 1048576) (c h : Int) (hc : Cur b c) (k : Nat) (hk : 7000 < k) : ∃ n A c' h', spec_l4Draw.f k b c h = some (n, A, c', h') ∧ (1 ≤ n ∧ n ≤ 6) ∧ Sm 10 A ∧ Cur b c' := by
  unfold spec_l4Draw.f
  obtain ⟨x, i1, k1, e1, g1, g2, g3⟩ := l1Below_eq b hb c h hc 6
  rw [e1, Option.bind_some]; simp only []
  obtain ⟨y, i2, k2, e2, p1, p2, p3⟩ := l1Below_eq b hb i1 k1 g3 10
  rw [e2, Option.bind_some]; simp only []
  rw [wr (i := 1 + x) (by omega) (by omega)]
  obtain ⟨A, c', h', e3, q2, q3⟩ := l4Draw_l b hb (1 + x) y.toNat k i2 k2 [] 0 p3 ⟨by simp, fun r hr => by cases hr⟩ (by omega) (by omega)
  rw [show ((y.toNat : Nat) : Int) = y by omega] at e3
  exact ⟨1 + x, A, c', h', e3, by omega, ⟨by have := q2.1; omega, q2.2⟩, q3⟩
theorem l4Raw_eq (b : List Int) (hb : b.length ≤ 1048576) (c h : Int) (hc : Cur b c) : ∃ x c' h', spec_l4Raw.f b c h = some (x, c', h') ∧ Cur b c' := by
  unfold spec_l4Raw.f
  obtain ⟨x, i1, k1, e1, _, g3⟩ := l1Int_eq b hb c h hc [(-1), 0, 5, 10, 11, 9223372036854775807, (-9223372036854775808)] (by simp)
  rw [e1, Option.bind_some]
  exact ⟨x, i1, k1, rfl, g3⟩
theorem l4Any_eq (b : List Int) (hb : b.length ≤ 1048576) (c h : Int) (hc : Cur b c) (k : Nat) (hk : 7000 < k) : ∃ n A c' h', spec_l4Any.f k b c h = some (n, A, c', h') ∧ Sm 11 A ∧ Cur b c' := by
  unfold spec_l4Any.f
  obtain ⟨n, A, i0, k0, e0, _, hs, g0⟩ := l4Draw_eq b hb c h hc k hk
  rw [e0, Option.bind_some]; simp only []
  obtain ⟨x, i1, k1, e1, _, _, g1⟩ := l1Below_eq b hb i0 k0 g0 14
  rw [e1, Option.bind_some]; simp only []
  have hl := hs.1
  by_cases h0 : x = 0
  · rw [if_pos h0]
    obtain ⟨r, i2, k2, e2, g2⟩ := l4Raw_eq b hb i1 k1 g1
    rw [e2, Option.bind_some]
    exact ⟨r, A, i2, k2, rfl, ⟨by omega, hs.2⟩, g2⟩
  · rw [if_neg h0]
    by_cases h1 : x = 1
    · rw [if_pos h1, if_pos (by omega)]
      refine ⟨n, _, i1, k1, rfl, ⟨by rw [List.length_append, List.length_singleton]; omega, fun r hr => ?_⟩, g1⟩
      rcases List.mem_append.1 hr with e | e
      · exact hs.2 r e
      · rw [List.mem_singleton.1 e]; simp
    · rw [if_neg h1]
      by_cases h2 : x = 2
      · rw [if_pos h2]
        obtain ⟨u, i2, k2, e2, _, _, g2⟩ := l1Below_eq b hb i1 k1 g1 7
        rw [e2, Option.bind_some]; simp only []
        obtain ⟨v, i3, k3, e3, _, _, g3⟩ := l1Below_eq b hb i2 k2 g2 7
        rw [e3, Option.bind_some, if_pos (by omega)]
        refine ⟨n, _, i3, k3, rfl, ⟨by rw [List.length_append, List.length_singleton]; omega, fun r hr => ?_⟩, g3⟩
        rcases List.mem_append.1 hr with e | e
        · exact hs.2 r e
        · rw [List.mem_singleton.1 e]; simp
      · rw [if_neg h2]
        exact ⟨n, A, i1, k1, rfl, ⟨by omega, hs.2⟩, g1⟩
theorem l4Set_l (b : List Int) (hb : b.length ≤ 1048576) (n : Int) (A : List (List Int)) : ∀ (d k i : Nat) (S : List Int) (c h : Int), i + d = 12 → S.length ≤ i → Cur b c → d < k → ∃ S' c' h', spec_l4Set.l0 k S i b c h n A = some (S', c', h') ∧ S'.length ≤ 12 ∧ Cur b c' := by
  have hmin : ∃ t, spec_Min.f 12 n = some t ∧ t ≤ 12 := by
    unfold spec_Min.f
    split
    · exact ⟨_, rfl, by omega⟩
    · exact ⟨_, rfl, by omega⟩
  obtain ⟨t, ht, ht2⟩ := hmin
  intro d
  induction d with
  | zero =>
    intro k i S c h hd hS hc hk
    obtain ⟨k, rfl⟩ := rounds_succ hk
    simp only [spec_l4Set.l0]; rw [ht, Option.bind_some, if_neg (by omega)]
    exact ⟨S, c, h, rfl, by omega, hc⟩
  | succ d ih =>
    intro k i S c h hd hS hc hk
    obtain ⟨k, rfl⟩ := rounds_succ hk
    simp only [spec_l4Set.l0]; rw [ht, Option.bind_some]
    by_cases hi : (i : Int) < t
    · rw [if_pos hi]
      obtain ⟨x, i1, k1, e1, g3⟩ := l1Once_eq b hb c h hc 3
      rw [e1, Option.bind_some]; simp only []
      rw [wrs (by omega)]
      cases x with
      | true =>
        rw [if_pos rfl, if_pos (by omega)]
        exact ih k (i + 1) _ i1 k1 (by omega) (by rw [List.length_append, List.length_singleton]; omega) g3 (by omega)
      | false =>
        rw [if_neg (by simp)]
        exact ih k (i + 1) _ i1 k1 (by omega) (by omega) g3 (by omega)
    · rw [if_neg hi]
      exact ⟨S, c, h, rfl, by omega, hc⟩
theorem dHit (b : List Int) (hb : b.length ≤ 1048576) (k : Nat) (hk : b.length + 7100 < k) : ∃ n A S, spec_DrawHitBy.f k b = some (n, A, S) ∧ Sm 11 A ∧ S.length ≤ 12 := by
  unfold spec_DrawHitBy.f
  obtain ⟨h0, e0⟩ := l1New_eq b hb k (by omega)
  have c0 : Cur b 0 := by unfold Cur; omega
  rw [e0, Option.bind_some]; simp only []
  obtain ⟨n, A, i1, k1, e1, hs, g1⟩ := l4Any_eq b hb 0 h0 c0 k (by omega)
  rw [e1, Option.bind_some]; simp only []
  unfold spec_l4Set.f
  obtain ⟨S, i2, k2, e2, hS, g2⟩ := l4Set_l b hb n A 12 k 0 [] i1 k1 (by omega) (by simp) g1 (by omega)
  rw [show (0 : Int) = ((0 : Nat) : Int) from rfl, e2, Option.bind_some]
  exact ⟨n, A, S, rfl, hs, hS⟩
theorem dSet (b : List Int) (hb : b.length ≤ 1048576) (k : Nat) (hk : b.length + 7100 < k) : ∃ n A S, spec_DrawIsSet.f k b = some (n, A, S) ∧ Sm 11 A ∧ S.length ≤ 13 := by
  unfold spec_DrawIsSet.f
  obtain ⟨n, A, S, e, hs, hS⟩ := dHit b hb k hk
  rw [e, Option.bind_some]; simp only []
  obtain ⟨h0, e0⟩ := l1New_eq b hb k (by omega)
  have c0 : Cur b 0 := by unfold Cur; omega
  rw [e0, Option.bind_some]; simp only []
  obtain ⟨x, i1, k1, e1, g3⟩ := l1Once_eq b hb 0 h0 c0 8
  rw [e1, Option.bind_some]; simp only []
  cases x with
  | true =>
    rw [if_pos rfl]
    obtain ⟨u, i2, k2, e2, _, _, g2⟩ := l1Below_eq b hb i1 k1 g3 8
    rw [e2, Option.bind_some]; simp only []
    rw [if_pos (by omega)]
    exact ⟨n, A, _, rfl, hs, by rw [List.length_append, List.length_singleton]; omega⟩
  | false =>
    rw [if_neg (by simp)]
    exact ⟨n, A, S, rfl, hs, by omega⟩
def cl (n : Int) : List Int := (List.range n.toNat).map fun (i : Nat) => (i : Int)
def hitb (A : List (List Int)) (S : List Int) (k : Int) : Bool := A.any fun p => rd p 1 == k && S.contains (rd p 0)
def hit (A : List (List Int)) (n : Int) (S : List Int) : List Int := (cl n).filter (hitb A S)
def defb (A : List (List Int)) (S : List Int) (c : Int) : Bool := A.all fun p => !(rd p 1 == c) || hitb A S (rd p 0)
def dby (A : List (List Int)) (n : Int) (S : List Int) : List Int := (cl n).filter (defb A S)
theorem mem_cl (n k : Int) : k ∈ cl n ↔ 0 ≤ k ∧ k < n := by
  unfold cl; simp only [List.mem_map, List.mem_range]
  constructor
  · rintro ⟨i, hi, rfl⟩; omega
  · rintro ⟨h0, h1⟩; exact ⟨k.toNat, by omega, by omega⟩
theorem cl_length (n : Int) : (cl n).length = n.toNat := by simp [cl]
theorem cl_sorted (n : Int) : (cl n).Pairwise (· < ·) := by
  unfold cl; rw [List.pairwise_map]
  exact List.pairwise_lt_range.imp (fun h => by omega)
theorem hitb_iff (A : List (List Int)) (S : List Int) (k : Int) : hitb A S k = true ↔ ∃ p ∈ A, rd p 1 = k ∧ rd p 0 ∈ S := by
  unfold hitb; simp
theorem defb_iff (A : List (List Int)) (S : List Int) (c : Int) : defb A S c = true ↔ ∀ p ∈ A, rd p 1 = c → hitb A S (rd p 0) = true := by
  unfold defb; simp only [List.all_eq_true, Bool.or_eq_true, Bool.not_eq_true', beq_eq_false_iff_ne]
  constructor
  · intro h p hp e; rcases h p hp with h | h
    · exact absurd e h
    · exact h
  · intro h p hp; by_cases e : rd p 1 = c
    · exact .inr (h p hp e)
    · exact .inl e
theorem hitb_mono {A : List (List Int)} {S T : List Int} (h : ∀ x ∈ S, x ∈ T) (k : Int) (hk : hitb A S k = true) : hitb A T k = true := by
  rw [hitb_iff] at *
  obtain ⟨p, hp, e, hs⟩ := hk
  exact ⟨p, hp, e, h _ hs⟩
theorem defb_mono {A : List (List Int)} {S T : List Int} (h : ∀ x ∈ S, x ∈ T) (k : Int) (hk : defb A S k = true) : defb A T k = true := by
  rw [defb_iff] at *
  exact fun p hp e => hitb_mono h _ (hk p hp e)
theorem dby_mono {A : List (List Int)} {n : Int} {S T : List Int} (h : ∀ x ∈ S, x ∈ T) : ∀ x ∈ dby A n S, x ∈ dby A n T := by
  intro x hx
  unfold dby at *
  rw [List.mem_filter] at *
  exact ⟨hx.1, defb_mono h _ hx.2⟩
def Free (A : List (List Int)) (S : List Int) : Prop := ∀ s ∈ S, hitb A S s = false
theorem free_dby {A : List (List Int)} {n : Int} {S : List Int} (hf : Free A S) : Free A (dby A n S) := by
  intro b hb
  cases e : hitb A (dby A n S) b with
  | false => rfl
  | true =>
    rw [hitb_iff] at e
    obtain ⟨p, hp, e1, ha⟩ := e
    have hb' := (List.mem_filter.1 hb).2
    rw [defb_iff] at hb'
    have h1 := hb' p hp e1
    rw [hitb_iff] at h1
    obtain ⟨q, hq, e2, hsq⟩ := h1
    have ha' := (List.mem_filter.1 ha).2
    rw [defb_iff] at ha'
    have h2 := ha' q hq e2
    have := hf _ hsq
    rw [h2] at this; cases this
def vicA (A : List (List Int)) (c : Int) : List Int := (A.filter fun p => rd p 0 == c).map fun p => rd p 1
def attA (A : List (List Int)) (c : Int) : List Int := (A.filter fun p => rd p 1 == c).map fun p => rd p 0
def vic (n : Int) (A : List (List Int)) (c : Int) : List Int := if isG n A = true then vicA A c else []
def att (n : Int) (A : List (List Int)) (c : Int) : List Int := if isG n A = true then attA A c else []
theorem vicA_len (A : List (List Int)) (c : Int) : (vicA A c).length ≤ A.length := by unfold vicA; rw [List.length_map]; exact List.length_filter_le _ _
theorem attA_len (A : List (List Int)) (c : Int) : (attA A c).length ≤ A.length := by unfold attA; rw [List.length_map]; exact List.length_filter_le _ _
theorem vic_len (n : Int) (A : List (List Int)) (c : Int) : (vic n A c).length ≤ A.length := by unfold vic; split; exact vicA_len A c; simp
theorem att_len (n : Int) (A : List (List Int)) (c : Int) : (att n A c).length ≤ A.length := by unfold att; split; exact attA_len A c; simp
theorem isG_len2 {n : Int} {A : List (List Int)} (h : isG n A = true) (i : Nat) (hi : i < A.length) : (rd_L1 A (i : Int)).length = 2 := ((isG_ok h).2 _ (rdL_mem A i hi)).1
def hitG (n : Int) (A : List (List Int)) (S : List Int) : List Int := if isG n A = true then hit A n S else []
theorem hit_sorted (A : List (List Int)) (n : Int) (S : List Int) : (hit A n S).Pairwise (· < ·) := (cl_sorted n).sublist List.filter_sublist
theorem hit_len (A : List (List Int)) (n : Int) (S : List Int) : (hit A n S).length ≤ n.toNat := by
  unfold hit; have := List.length_filter_le (hitb A S) (cl n); rwa [cl_length] at this
theorem hitG_len (n : Int) (A : List (List Int)) (S : List Int) : (hitG n A S).length ≤ 10 := by
  unfold hitG
  split
  · rename_i h; have := hit_len A n S; have := (isG_ok h).1; omega
  · simp
theorem mem_hit {A : List (List Int)} {n : Int} {S : List Int} (h : isG n A = true) (k : Int) : k ∈ hit A n S ↔ hitb A S k = true := by
  unfold hit
  rw [List.mem_filter, mem_cl]
  constructor
  · exact fun h => h.2
  · intro hb
    refine ⟨?_, hb⟩
    obtain ⟨p, hp, e, _⟩ := (hitb_iff A S k).1 hb
    have := ((isG_ok h).2 p hp).2.2
    omega
def sl (w : Int) : Option Int → List Int → Bool
  | _, [] => true
  | prev, c :: R => decide (0 ≤ c ∧ c ≤ w) && (match prev with | none => true | some q => decide (q < c)) && sl w (some c) R
def isS (n : Int) (A : List (List Int)) (S : List Int) : Bool := isG n A && sl (n - 1) none S
def prevS (S : List Int) (i : Nat) : Option Int := if i = 0 then none else some (rd S ((i - 1 : Nat) : Int))
theorem prevS_succ (S : List Int) (i : Nat) : prevS S (i + 1) = some (rd S (i : Int)) := by unfold prevS; rw [if_neg (by omega)]; rfl
theorem drop_rdS (l : List Int) (i : Nat) (h : i < l.length) : l.drop i = rd l i :: l.drop (i + 1) := by rw [rd_nat l i h]; exact List.drop_eq_getElem_cons h
theorem sl_in (w : Int) (R : List Int) : ∀ prev, sl w prev R = true → ∀ c ∈ R, 0 ≤ c ∧ c ≤ w := by
  induction R with
  | nil => intro prev _ p hp; cases hp
  | cons q R ih =>
    intro prev h p hp
    simp only [sl, Bool.and_eq_true, decide_eq_true_eq] at h
    rcases List.mem_cons.1 hp with e | e
    · rw [e]; exact h.1.1
    · exact ih _ h.2 p e
theorem sl_sorted (w : Int) (R : List Int) : ∀ prev, sl w prev R = true → R.Pairwise (· < ·) ∧ ∀ q, prev = some q → ∀ c ∈ R, q < c := by
  induction R with
  | nil => intro prev _; exact ⟨List.Pairwise.nil, fun q _ c hc => by cases hc⟩
  | cons x R ih =>
    intro prev h
    simp only [sl, Bool.and_eq_true, decide_eq_true_eq] at h
    obtain ⟨h1, h2⟩ := ih _ h.2
    have hx := h2 x rfl
    refine ⟨List.pairwise_cons.2 ⟨hx, h1⟩, fun q hq c hc => ?_⟩
    subst hq
    have hqx : q < x := by simpa using h.1.2
    rcases List.mem_cons.1 hc with e | e
    · rw [e]; exact hqx
    · have := hx c e; omega
theorem isS_ok {n : Int} {A : List (List Int)} {S : List Int} (h : isS n A S = true) : isG n A = true ∧ (∀ c ∈ S, 0 ≤ c ∧ c < n) ∧ S.Pairwise (· < ·) := by
  unfold isS at h
  rw [Bool.and_eq_true] at h
  refine ⟨h.1, fun c hc => ?_, (sl_sorted _ _ _ h.2).1⟩
  have := sl_in _ _ _ h.2 c hc
  omega
def freeb (n : Int) (A : List (List Int)) (S : List Int) : Bool := isS n A S && S.all fun c => !decide (c ∈ hitG n A S)
theorem rd_drop (S : List Int) (i : Nat) (h : i < S.length) : S.drop i = rd S i :: S.drop (i + 1) := by rw [rd_nat S i h]; exact List.drop_eq_getElem_cons _
def defends (n : Int) (A : List (List Int)) (S : List Int) (c : Int) : Bool := isS n A S && (decide (0 ≤ c ∧ c ≤ n - 1) && (att n A c).all fun a => decide (a ∈ hitG n A S))
def admb (n : Int) (A : List (List Int)) (S : List Int) : Bool := freeb n A S && S.all fun c => defends n A S c
theorem impl_InRange_eq (a b c : Int) : impl_InRange.f a b c = some (decide (b ≤ a ∧ a ≤ c)) := by
  unfold impl_InRange.f; by_cases h : b ≤ a <;> simp [h]
theorem cmpi_eq (a b : Int) : cmp_Compare_int.f a b = some (if a < b then -1 else if a > b then 1 else 0) := by
  unfold cmp_Compare_int.f cmp_isNaN_int.f
  simp only [Option.bind_some, bne_self_eq_false, Bool.false_eq_true, if_false]
  split
  · rfl
  · split <;> rfl
theorem cmp2_eq (p q : List Int) (hp : p.length = 2) (hq : q.length = 2) (k : Nat) (hk : 3 < k) : ∃ t, slices_Compare_int_int.f k p q = some t ∧ (t ≥ 0 ↔ lexlt p q = false) := by
  obtain ⟨k, rfl⟩ : ∃ m, k = m + 3 := ⟨k - 3, by omega⟩
  have l1 : lexlt p q = decide (rd p 0 < rd q 0 ∨ (rd p 0 = rd q 0 ∧ rd p 1 < rd q 1)) := rfl
  rw [l1]
  unfold slices_Compare_int_int.f
  rw [slices_Compare_int_int.l0, if_pos (by omega), if_pos (by omega), if_pos (by omega), if_neg (by omega), if_pos (by omega), cmpi_eq, Option.bind_some]
  by_cases h1 : rd p 0 < rd q 0
  · rw [if_pos h1, if_neg (by omega)]; exact ⟨-1, rfl, by simp [h1]⟩
  · rw [if_neg h1]
    by_cases h2 : rd p 0 > rd q 0
    · rw [if_pos h2, if_neg (by omega)]; exact ⟨1, rfl, by simp; omega⟩
    · rw [if_neg h2, if_pos rfl, show wrap64 ((0 : Int) + 1) = 1 from wr (by omega) (by omega)]
      rw [slices_Compare_int_int.l0, if_pos (by omega), if_pos (by omega), if_pos (by omega), if_neg (by omega), if_pos (by omega), cmpi_eq, Option.bind_some]
      by_cases h3 : rd p 1 < rd q 1
      · rw [if_pos h3, if_neg (by omega)]; exact ⟨-1, rfl, by simp [h3]; omega⟩
      · rw [if_neg h3]
        by_cases h4 : rd p 1 > rd q 1
        · rw [if_pos h4, if_neg (by omega)]; exact ⟨1, rfl, by simp; omega⟩
        · rw [if_neg h4, if_pos rfl, show wrap64 ((1 : Int) + 1) = 2 from wr (by omega) (by omega)]
          rw [slices_Compare_int_int.l0, if_neg (by omega), if_neg (by omega)]
          exact ⟨0, rfl, by simp; omega⟩
theorem impl_isClaim_eq (n : Int) (A : List (List Int)) (c : Int) (h : 0 ≤ n ∧ n ≤ 10) : impl_isClaim.f n A c = some (decide (0 ≤ c ∧ c ≤ n - 1)) := by
  unfold impl_isClaim.f
  rw [wr (i := n - 1) (by omega) (by omega), impl_InRange_eq, Option.bind_some]
theorem impl_IsGraph_l (n : Int) (A : List (List Int)) (hA : A.length ≤ 1048576) (hn : 0 ≤ n ∧ n ≤ 10) : ∀ (d k i : Nat), i + d = A.length → (∀ j, j < i → (rd_L1 A (j : Int)).length = 2) → d + 4 < k →
    impl_IsGraph.l0 k A (A.length : Int) i n A = some (gl (n - 1) (prevOf A i) (A.drop i)) := by
  intro d
  induction d with
  | zero =>
    intro k i hd hp hk
    obtain ⟨k, rfl⟩ := rounds_succ hk
    simp only [impl_IsGraph.l0]; rw [if_neg (by omega), List.drop_eq_nil_of_le (by omega)]
    simp [gl]
  | succ d ih =>
    intro k i hd hp hk
    obtain ⟨k, rfl⟩ := rounds_succ hk
    simp only [impl_IsGraph.l0]; rw [if_pos (by omega), if_pos (by omega), if_pos (by omega), rdL_drop A i (by omega)]
    simp only [gl]
    generalize hq : rd_L1 A (i : Int) = p
    by_cases h2 : p.length = 2
    · rw [if_pos (by omega), if_pos (by omega), impl_isClaim_eq n A _ hn, Option.bind_some]
      by_cases h3 : 0 ≤ rd p 0 ∧ rd p 0 ≤ n - 1
      · rw [if_pos (by simp only [h3, and_self, decide_true]), if_pos (by omega), impl_isClaim_eq n A _ hn, Option.bind_some]
        by_cases h4 : 0 ≤ rd p 1 ∧ rd p 1 ≤ n - 1
        · have hok : okE (n - 1) p = true := by unfold okE; simp only [h2, h3, h4, and_self, decide_true]
          have hnext := ih k (i + 1) (by omega) (fun j hj => by
            by_cases e : j = i
            · rw [e, hq]; exact h2
            · exact hp j (by omega)) (by omega)
          rw [prevOf_succ, hq] at hnext
          rw [if_pos (by simp only [h4, and_self, decide_true])]
          simp only [hok, Bool.true_and]
          by_cases hi : i = 0
          · subst hi
            rw [if_neg (by omega)]
            rw [show wrap64 (((0 : Nat) : Int) + 1) = ((0 + 1 : Nat) : Int) from wrs (by omega), hnext]
            simp [prevOf]
          · have e1 : prevOf A i = some (rd_L1 A ((i - 1 : Nat) : Int)) := by unfold prevOf; rw [if_neg hi]
            have hl := hp (i - 1) (by omega)
            rw [e1]
            rw [if_pos (by omega), show wrap64 ((i : Int) - 1) = ((i - 1 : Nat) : Int) by rw [wr (by omega) (by omega)]; omega]
            generalize rd_L1 A ((i - 1 : Nat) : Int) = q at hl ⊢
            rw [if_pos (by omega), if_pos (by omega)]
            obtain ⟨t, ht, htt⟩ := cmp2_eq q p hl h2 k (by omega)
            rw [ht, Option.bind_some, wrs (by omega), hnext]
            by_cases h5 : t ≥ 0
            · rw [if_pos h5]; simp [htt.1 h5]
            · rw [if_neg h5]
              have : lexlt q p = true := by
                cases e : lexlt q p with
                | true => rfl
                | false => exact absurd (htt.2 e) h5
              simp [this]
        · have hok : okE (n - 1) p = false := by unfold okE; simp only [decide_eq_false_iff_not]; omega
          rw [if_neg (by simp only [decide_eq_true_eq]; omega)]; simp [hok]
      · have hok : okE (n - 1) p = false := by unfold okE; simp only [decide_eq_false_iff_not]; omega
        rw [if_neg (by simp only [decide_eq_true_eq]; omega)]; simp [hok]
    · have hok : okE (n - 1) p = false := by unfold okE; simp [h2]
      rw [if_neg (by omega)]; simp [hok]
theorem impl_IsGraph_eq (n : Int) (A : List (List Int)) (hA : A.length ≤ 1048576) (k : Nat) (hk : A.length + 4 < k) : impl_IsGraph.f k n A = some (isG n A) := by
  unfold impl_IsGraph.f isG
  rw [impl_InRange_eq, Option.bind_some]
  by_cases h : 0 ≤ n ∧ n ≤ 10
  · rw [if_pos (by simp [h])]
    have := impl_IsGraph_l n A hA h A.length k 0 (by omega) (fun j hj => by omega) hk
    rw [show ((0 : Nat) : Int) = 0 from rfl] at this
    rw [this]
    simp [h, prevOf]
  · rw [if_neg (by simp only [decide_eq_true_eq]; exact h)]; simp [h]
theorem impl_IsSet_l (n : Int) (A : List (List Int)) (S : List Int) (hS : S.length ≤ 1048576) (hn : 0 ≤ n ∧ n ≤ 10) : ∀ (d k i : Nat), i + d = S.length → d < k → impl_IsSet.l0 k S S (S.length : Int) i n A = some (sl (n - 1) (prevS S i) (S.drop i)) := by
  intro d
  induction d with
  | zero =>
    intro k i hd hk
    obtain ⟨k, rfl⟩ := rounds_succ hk
    simp only [impl_IsSet.l0]; rw [if_neg (by omega), List.drop_eq_nil_of_le (by omega)]
    simp [sl]
  | succ d ih =>
    intro k i hd hk
    obtain ⟨k, rfl⟩ := rounds_succ hk
    have hnext := ih k (i + 1) (by omega) (by omega)
    rw [prevS_succ] at hnext
    simp only [impl_IsSet.l0]; rw [if_pos (by omega), if_pos (by omega), if_pos (by omega), impl_isClaim_eq n A _ hn, Option.bind_some, wrs (by omega), hnext, drop_rdS S i (by omega)]
    simp only [sl]
    generalize rd S (i : Int) = c
    by_cases h1 : 0 ≤ c ∧ c ≤ n - 1
    · rw [if_pos (by simp only [h1, and_self, decide_true])]
      simp only [h1, and_self, decide_true, Bool.true_and]
      by_cases hi : i = 0
      · subst hi
        rw [if_neg (by omega)]; simp [prevS]
      · have e1 : prevS S i = some (rd S ((i - 1 : Nat) : Int)) := by unfold prevS; rw [if_neg hi]
        rw [e1, if_pos (by omega), show wrap64 ((i : Int) - 1) = ((i - 1 : Nat) : Int) by rw [wr (by omega) (by omega)]; omega, if_pos (by omega), if_pos (by omega)]
        generalize rd S ((i - 1 : Nat) : Int) = q
        by_cases h2 : c ≤ q
        · rw [if_pos h2]
          have : decide (q < c) = false := by simp; omega
          simp [this]
        · rw [if_neg h2]
          have : decide (q < c) = true := by simp; omega
          simp [this]
    · rw [if_neg (by simp only [h1, decide_false, Bool.false_eq_true, not_false_eq_true])]; simp [h1]
theorem impl_IsSet_eq (n : Int) (A : List (List Int)) (S : List Int) (hA : A.length ≤ 1048576) (hS : S.length ≤ 1048576) (k : Nat) (hk : A.length + S.length + 4 < k) : impl_IsSet.f k n A S = some (isS n A S) := by
  unfold impl_IsSet.f isS
  rw [impl_IsGraph_eq n A hA k (by omega), Option.bind_some]
  by_cases h : isG n A = true
  · have := impl_IsSet_l n A S hS (isG_ok h).1 S.length k 0 (by omega) (by omega)
    rw [show ((0 : Nat) : Int) = 0 from rfl] at this
    rw [if_pos h, this, h]; simp [prevS]
  · rw [if_neg h]; simp [h]
theorem impl_VictimsOf_l (n : Int) (A : List (List Int)) (c : Int) (hA : A.length ≤ 1048576) (hg : isG n A = true) : ∀ (d k i : Nat) (o : List Int), i + d = A.length → o.length ≤ i → d < k → impl_VictimsOf.l0 k c o A (A.length : Int) i = some (o ++ vicA (A.drop i) c) := by
  intro d
  induction d with
  | zero =>
    intro k i o hd ho hk
    obtain ⟨k, rfl⟩ := rounds_succ hk
    simp only [impl_VictimsOf.l0]; rw [if_neg (by omega), List.drop_eq_nil_of_le (by omega)]; simp [vicA]
  | succ d ih =>
    intro k i o hd ho hk
    obtain ⟨k, rfl⟩ := rounds_succ hk
    have h2 := isG_len2 hg i (by omega)
    simp only [impl_VictimsOf.l0]; rw [if_pos (by omega), if_pos (by omega), if_pos (by omega), if_pos (by omega), wrs (by omega), rdL_drop A i (by omega)]
    generalize rd_L1 A (i : Int) = p at h2 ⊢
    by_cases h : rd p 0 = c
    · rw [if_pos h, if_pos (by omega), if_pos (by omega), ih k (i + 1) _ (by omega) (by rw [List.length_append, List.length_singleton]; omega) (by omega)]
      simp [vicA, h]
    · rw [if_neg h, ih k (i + 1) _ (by omega) (by omega) (by omega)]
      simp [vicA, h]
theorem impl_VictimsOf_eq (n : Int) (A : List (List Int)) (c : Int) (hA : A.length ≤ 1048576) (k : Nat) (hk : A.length + 4 < k) : impl_VictimsOf.f k n A c = some (vic n A c) := by
  unfold impl_VictimsOf.f vic
  rw [Option.bind_some, impl_IsGraph_eq n A hA k hk, Option.bind_some]
  by_cases h : isG n A = true
  · rw [if_pos h, if_pos h]
    have := impl_VictimsOf_l n A c hA h A.length k 0 [] (by omega) (by simp) (by omega)
    simpa using this
  · rw [if_neg h, if_neg h]
theorem sorted_ext {a b : List Int} (ha : a.Pairwise (· < ·)) (hb : b.Pairwise (· < ·)) (h : ∀ x, x ∈ a ↔ x ∈ b) : a = b := by
  induction a generalizing b with
  | nil =>
    cases b with
    | nil => rfl
    | cons y b => exact absurd ((h y).2 (List.mem_cons_self ..)) (by simp)
  | cons x a ih =>
    cases b with
    | nil => exact absurd ((h x).1 (List.mem_cons_self ..)) (by simp)
    | cons y b =>
      rw [List.pairwise_cons] at ha hb
      have hxy : x = y := by
        rcases List.mem_cons.1 ((h x).1 (List.mem_cons_self ..)) with e | e
        · exact e
        · rcases List.mem_cons.1 ((h y).2 (List.mem_cons_self ..)) with e' | e'
          · exact e'.symm
          · have := hb.1 x e; have := ha.1 y e'; omega
      subst hxy
      congr 1
      refine ih ha.2 hb.2 fun z => ?_
      constructor
      · intro hz
        rcases List.mem_cons.1 ((h z).1 (List.mem_cons_of_mem _ hz)) with e | e
        · subst e; exact absurd (ha.1 z hz) (by omega)
        · exact e
      · intro hz
        rcases List.mem_cons.1 ((h z).2 (List.mem_cons_of_mem _ hz)) with e | e
        · subst e; exact absurd (hb.1 z hz) (by omega)
        · exact e
theorem mono_at {l : List Int} (h : l.Pairwise (· ≤ ·)) {i j : Nat} (hij : i ≤ j) (hj : j < l.length) : l.toArray[i]! ≤ l.toArray[j]! := by
  have hi : i < l.length := by omega
  simp only [List.getElem!_toArray, List.getElem!_eq_getElem?_getD, List.getElem?_eq_getElem hi, List.getElem?_eq_getElem hj, Option.getD_some]
  rcases Nat.lt_or_ge i j with h1 | h1
  · exact List.pairwise_iff_getElem.1 h i j hi hj h1
  · have : i = j := by omega
    subst this; exact Int.le_refl _
theorem compact_at {l : List Int} (h : l.Pairwise (· ≤ ·)) : ∀ m, m ≤ l.length → (Go.Lib.compactUpTo l.toArray m).Pairwise (· < ·) ∧ (∀ x, x ∈ Go.Lib.compactUpTo l.toArray m ↔ ∃ j, j < m ∧ l.toArray[j]! = x) := by
  intro m
  induction m with
  | zero => intro _; exact ⟨by simp [Go.Lib.compactUpTo], fun x => by simp [Go.Lib.compactUpTo]⟩
  | succ m ih =>
    intro hm
    obtain ⟨h1, h2⟩ := ih (by omega)
    rw [Go.Lib.compactUpTo_succ]
    by_cases hk : Go.Lib.keeps l.toArray m = true
    · rw [if_pos hk]
      have hne : m = 0 ∨ l.toArray[m]! ≠ l.toArray[m - 1]! := by simpa [Go.Lib.keeps] using hk
      refine ⟨?_, fun x => ?_⟩
      · rw [List.pairwise_append]
        refine ⟨h1, List.pairwise_singleton _ _, fun a ha b hb => ?_⟩
        rw [List.mem_singleton] at hb
        subst hb
        obtain ⟨j, hj, rfl⟩ := (h2 a).1 ha
        have e1 := mono_at h (show j ≤ m - 1 by omega) (by omega)
        have e2 := mono_at h (show m - 1 ≤ m by omega) (by omega)
        rcases hne with h0 | h0
        · omega
        · have : l.toArray[m - 1]! ≠ l.toArray[m]! := fun e => h0 e.symm
          omega
      · rw [List.mem_append, h2, List.mem_singleton]
        constructor
        · rintro (⟨j, hj, e⟩ | e)
          · exact ⟨j, by omega, e⟩
          · exact ⟨m, by omega, e.symm⟩
        · rintro ⟨j, hj, e⟩
          by_cases hjm : j = m
          · subst hjm; exact .inr e.symm
          · exact .inl ⟨j, by omega, e⟩
    · rw [if_neg hk, List.append_nil]
      have hne : m ≠ 0 ∧ l.toArray[m]! = l.toArray[m - 1]! := by
        have : ¬ (m = 0 ∨ l.toArray[m]! ≠ l.toArray[m - 1]!) := by simpa [Go.Lib.keeps] using hk
        exact ⟨fun e => this (.inl e), Decidable.byContradiction fun e => this (.inr e)⟩
      refine ⟨h1, fun x => ?_⟩
      rw [h2]
      constructor
      · rintro ⟨j, hj, e⟩; exact ⟨j, by omega, e⟩
      · rintro ⟨j, hj, e⟩
        by_cases hjm : j = m
        · subst hjm; exact ⟨j - 1, by omega, by rw [← hne.2]; exact e⟩
        · exact ⟨j, by omega, e⟩
theorem sortedc (l : List Int) : (l.mergeSort fun x y => decide (x ≤ y)).Pairwise (· ≤ ·) := by
  have := List.pairwise_mergeSort (le := fun x y : Int => decide (x ≤ y)) (fun a b c h1 h2 => by simp at *; omega) (fun a b => by simp; omega) l
  exact this.imp (fun h => by simpa using h)
theorem compact_sorted (l : List Int) : (Go.Lib.compact (l.mergeSort fun x y => decide (x ≤ y))).Pairwise (· < ·) ∧ ∀ x, x ∈ Go.Lib.compact (l.mergeSort fun x y => decide (x ≤ y)) ↔ x ∈ l := by
  have h := compact_at (sortedc l) _ (Nat.le_refl _)
  refine ⟨h.1, fun x => ?_⟩
  unfold Go.Lib.compact
  rw [h.2, ← List.mem_mergeSort (le := fun x y => decide (x ≤ y))]
  generalize (l.mergeSort fun x y => decide (x ≤ y)) = q
  rw [List.mem_iff_getElem]
  constructor
  · rintro ⟨j, hj, e⟩
    exact ⟨j, hj, by simpa [List.getElem!_eq_getElem?_getD, List.getElem?_eq_getElem hj] using e⟩
  · rintro ⟨j, hj, e⟩
    exact ⟨j, hj, by simpa [List.getElem!_eq_getElem?_getD, List.getElem?_eq_getElem hj] using e⟩
theorem flat_len (n : Int) (A : List (List Int)) (S : List Int) : (S.flatMap (vic n A)).length ≤ S.length * A.length := by
  induction S with
  | nil => simp
  | cons s S ih =>
    rw [List.flatMap_cons, List.length_append, List.length_cons, Nat.succ_mul]
    have := vic_len n A s
    omega
theorem impl_HitBy_l (n : Int) (A : List (List Int)) (S : List Int) (hA : A.length ≤ 1048576) (hS : S.length ≤ 1048576) : ∀ (d k i : Nat) (o : List Int), i + d = S.length → o.length ≤ i * 1048576 → d + A.length + 5 < k → impl_HitBy.l0 k n A o S (S.length : Int) i = some (o ++ (S.drop i).flatMap (vic n A)) := by
  intro d
  induction d with
  | zero =>
    intro k i o hd ho hk
    obtain ⟨k, rfl⟩ := rounds_succ hk
    simp only [impl_HitBy.l0]; rw [if_neg (by omega), List.drop_eq_nil_of_le (by omega)]; simp
  | succ d ih =>
    intro k i o hd ho hk
    obtain ⟨k, rfl⟩ := rounds_succ hk
    have hv := vic_len n A (rd S (i : Int))
    simp only [impl_HitBy.l0]; rw [if_pos (by omega), if_pos (by omega), if_pos (by omega), impl_VictimsOf_eq n A _ hA k (by omega), Option.bind_some, if_pos (by omega), wrs (by omega), ih k (i + 1) _ (by omega) (by rw [List.length_append]; omega) (by omega)]
    have e : S.drop i = rd S i :: S.drop (i + 1) := by rw [rd_nat S i (by omega)]; exact List.drop_eq_getElem_cons _
    rw [e, List.flatMap_cons, List.append_assoc]
theorem impl_HitBy_eq (n : Int) (A : List (List Int)) (S : List Int) (hA : A.length ≤ 1048576) (hS : S.length ≤ 1048576) (k : Nat) (hk : S.length + A.length + 5 < k) : impl_HitBy.f k n A S = some (hitG n A S) := by
  unfold impl_HitBy.f
  have h := impl_HitBy_l n A S hA hS S.length k 0 [] (by omega) (by simp) (by omega)
  simp only [List.drop_zero, List.nil_append, Int.natCast_zero] at h
  have hl := flat_len n A S
  have hl2 : S.length * A.length ≤ 1048576 * 1048576 := Nat.mul_le_mul hS hA
  rw [h, Option.bind_some, if_pos (by omega)]
  congr 1
  unfold hitG Go.Proofs.YtelkfhlnejlheaaW.Sorts.sorted
  obtain ⟨c1, c2⟩ := compact_sorted (S.flatMap (vic n A))
  by_cases hg : isG n A = true
  · rw [if_pos hg]
    refine sorted_ext c1 (hit_sorted A n S) fun x => ?_
    rw [c2, mem_hit hg, hitb_iff, List.mem_flatMap]
    have hvv : ∀ a, vic n A a = vicA A a := fun a => by unfold vic; rw [if_pos hg]
    simp only [hvv]; unfold vicA
    constructor
    · rintro ⟨s, hs, hx⟩
      obtain ⟨p, hp, e⟩ := List.mem_map.1 hx
      obtain ⟨hp1, hp2⟩ := List.mem_filter.1 hp
      have hp2 := beq_iff_eq.1 hp2
      exact ⟨p, hp1, e, by rw [hp2]; exact hs⟩
    · rintro ⟨p, hp, e, hs⟩
      exact ⟨rd p 0, hs, List.mem_map.2 ⟨p, List.mem_filter.2 ⟨hp, by simp⟩, e⟩⟩
  · rw [if_neg hg]
    have : S.flatMap (vic n A) = [] := by
      rw [List.flatMap_eq_nil_iff]
      intro s _
      unfold vic; rw [if_neg hg]
    rw [this]
    simp [Go.Lib.compact, Go.Lib.compactUpTo]
theorem impl_AttackersOf_l (n : Int) (A : List (List Int)) (c : Int) (hA : A.length ≤ 1048576) (hg : isG n A = true) : ∀ (d k i : Nat) (o : List Int), i + d = A.length → o.length ≤ i → d < k → impl_AttackersOf.l0 k c o A (A.length : Int) i = some (o ++ attA (A.drop i) c) := by
  intro d
  induction d with
  | zero =>
    intro k i o hd ho hk
    obtain ⟨k, rfl⟩ := rounds_succ hk
    simp only [impl_AttackersOf.l0]; rw [if_neg (by omega), List.drop_eq_nil_of_le (by omega)]; simp [attA]
  | succ d ih =>
    intro k i o hd ho hk
    obtain ⟨k, rfl⟩ := rounds_succ hk
    have h2 := isG_len2 hg i (by omega)
    simp only [impl_AttackersOf.l0]; rw [if_pos (by omega), if_pos (by omega), if_pos (by omega), if_pos (by omega), wrs (by omega), rdL_drop A i (by omega)]
    generalize rd_L1 A (i : Int) = p at h2 ⊢
    by_cases h : rd p 1 = c
    · rw [if_pos h, if_pos (by omega), if_pos (by omega), ih k (i + 1) _ (by omega) (by rw [List.length_append, List.length_singleton]; omega) (by omega)]
      simp [attA, h]
    · rw [if_neg h, ih k (i + 1) _ (by omega) (by omega) (by omega)]
      simp [attA, h]
theorem impl_AttackersOf_eq (n : Int) (A : List (List Int)) (c : Int) (hA : A.length ≤ 1048576) (k : Nat) (hk : A.length + 4 < k) : impl_AttackersOf.f k n A c = some (att n A c) := by
  unfold impl_AttackersOf.f att
  rw [Option.bind_some, impl_IsGraph_eq n A hA k hk, Option.bind_some]
  by_cases h : isG n A = true
  · rw [if_pos h, if_pos h]
    have := impl_AttackersOf_l n A c hA h A.length k 0 [] (by omega) (by simp) (by omega)
    simpa using this
  · rw [if_neg h, if_neg h]
theorem idx_l (S : List Int) (c : Int) (hS : S.length ≤ 1099511627776) : ∀ (d k i : Nat), i + d = S.length → d < k → ∃ t, slices_Index_int_int.l0 k S c (S.length : Int) i = some t ∧ (t ≥ 0 ↔ c ∈ S.drop i) := by
  intro d
  induction d with
  | zero =>
    intro k i hd hk
    obtain ⟨k, rfl⟩ := rounds_succ hk
    simp only [slices_Index_int_int.l0]; rw [if_neg (by omega), List.drop_eq_nil_of_le (by omega)]
    exact ⟨-1, rfl, by simp⟩
  | succ d ih =>
    intro k i hd hk
    obtain ⟨k, rfl⟩ := rounds_succ hk
    simp only [slices_Index_int_int.l0]; rw [if_pos (by omega), if_pos (by omega), if_pos (by omega), wrs (by omega)]
    have e : S.drop i = rd S i :: S.drop (i + 1) := by rw [rd_nat S i (by omega)]; exact List.drop_eq_getElem_cons _
    rw [e]
    by_cases h : c = rd S (i : Int)
    · rw [if_pos h]; exact ⟨i, rfl, by simp [← h]⟩
    · rw [if_neg h]
      obtain ⟨t, ht, h2⟩ := ih k (i + 1) (by omega) (by omega)
      exact ⟨t, ht, by rw [h2]; simp [h]⟩
theorem contains_eq (S : List Int) (c : Int) (hS : S.length ≤ 1099511627776) (k : Nat) (hk : S.length < k) : slices_Contains_int_int.f k S c = some (decide (c ∈ S)) := by
  obtain ⟨t, ht, h⟩ := idx_l S c hS S.length k 0 (by omega) hk
  rw [List.drop_zero] at h
  unfold slices_Contains_int_int.f slices_Index_int_int.f
  rw [show (0 : Int) = ((0 : Nat) : Int) from rfl, ht, Option.bind_some]
  simp [← h]
theorem impl_Defends_l (H L : List Int) (hH : H.length ≤ 10) (hL : L.length ≤ 1048576) : ∀ (d k i : Nat), i + d = L.length → d + 20 < k → impl_Defends.l0 k H L (L.length : Int) i = some ((L.drop i).all fun a => decide (a ∈ H)) := by
  intro d
  induction d with
  | zero =>
    intro k i hd hk
    obtain ⟨k, rfl⟩ := rounds_succ hk
    simp only [impl_Defends.l0]; rw [if_neg (by omega), List.drop_eq_nil_of_le (by omega)]; simp
  | succ d ih =>
    intro k i hd hk
    obtain ⟨k, rfl⟩ := rounds_succ hk
    simp only [impl_Defends.l0]; rw [if_pos (by omega), if_pos (by omega), if_pos (by omega), contains_eq H _ (by omega) k (by omega), Option.bind_some, wrs (by omega), ih k (i + 1) (by omega) (by omega), rd_drop L i (by omega), List.all_cons]
    by_cases h : rd L (i : Int) ∈ H
    · rw [if_pos (by simpa using h)]; simp [h]
    · rw [if_neg (by simpa using h)]; simp [h]
theorem impl_Defends_eq (n : Int) (A : List (List Int)) (S : List Int) (c : Int) (hA : A.length ≤ 1048576) (hS : S.length ≤ 1048576) (k : Nat) (hk : A.length + S.length + 60 < k) : impl_Defends.f k n A S c = some (defends n A S c) := by
  obtain ⟨k, rfl⟩ := rounds_succ hk
  unfold impl_Defends.f defends
  rw [impl_IsSet_eq n A S hA hS (k + 1) (by omega), Option.bind_some]
  simp only [impl_Defends.j0]
  by_cases h : isS n A S = true
  · have hn := (isG_ok (isS_ok h).1).1
    have hl := att_len n A c
    rw [if_pos h]
    unfold impl_isClaim.f
    rw [wr (i := n - 1) (by omega) (by omega), impl_InRange_eq, Option.bind_some, Option.bind_some, h, Bool.true_and]
    by_cases h1 : 0 ≤ c ∧ c ≤ n - 1
    · have := impl_Defends_l (hitG n A S) (att n A c) (hitG_len n A S) (by omega) (att n A c).length k 0 (by omega) (by omega)
      simp only [List.drop_zero, Int.natCast_zero] at this
      rw [if_neg (by simp [h1]), impl_HitBy_eq n A S hA hS k (by omega), Option.bind_some, impl_AttackersOf_eq n A c hA k (by omega), Option.bind_some, this]
      simp [h1]
    · have h1b : decide (0 ≤ c ∧ c ≤ n - 1) = false := decide_eq_false h1
      rw [h1b]; simp
  · rw [if_neg h]; simp [h]
theorem impl_IsFree_l (S H : List Int) (hS : S.length ≤ 1048576) (hH : H.length ≤ 10) : ∀ (d k i : Nat), i + d = H.length → d + S.length + 2 < k → impl_IsFree.l0 k S H (H.length : Int) i = some ((H.drop i).all fun c => !decide (c ∈ S)) := by
  intro d
  induction d with
  | zero =>
    intro k i hd hk
    obtain ⟨k, rfl⟩ := rounds_succ hk
    simp only [impl_IsFree.l0]; rw [if_neg (by omega), List.drop_eq_nil_of_le (by omega)]; simp
  | succ d ih =>
    intro k i hd hk
    obtain ⟨k, rfl⟩ := rounds_succ hk
    simp only [impl_IsFree.l0]; rw [if_pos (by omega), if_pos (by omega), if_pos (by omega), contains_eq S _ (by omega) k (by omega), Option.bind_some, wrs (by omega), ih k (i + 1) (by omega) (by omega), rd_drop H i (by omega), List.all_cons]
    by_cases h : rd H (i : Int) ∈ S
    · rw [if_pos (by simpa using h)]; simp [h]
    · rw [if_neg (by simpa using h)]; simp [h]
theorem all_swap (S H : List Int) : (H.all fun c => !decide (c ∈ S)) = (S.all fun c => !decide (c ∈ H)) := by
  rw [Bool.eq_iff_iff]
  simp only [List.all_eq_true, Bool.not_eq_true', decide_eq_false_iff_not]
  exact ⟨fun h c hc hh => h c hh hc, fun h c hc hh => h c hh hc⟩
theorem impl_IsFree_eq (n : Int) (A : List (List Int)) (S : List Int) (hA : A.length ≤ 1048576) (hS : S.length ≤ 1048576) (k : Nat) (hk : A.length + S.length + 20 < k) : impl_IsFree.f k n A S = some (freeb n A S) := by
  unfold impl_IsFree.f freeb
  have hl := hitG_len n A S
  rw [impl_IsSet_eq n A S hA hS k (by omega), Option.bind_some]
  by_cases h : isS n A S = true
  · rw [if_pos h, impl_HitBy_eq n A S hA hS k (by omega), Option.bind_some, show (0 : Int) = ((0 : Nat) : Int) from rfl, impl_IsFree_l S (hitG n A S) hS hl (hitG n A S).length k 0 (by omega) (by omega), List.drop_zero, all_swap, h, Bool.true_and]
  · rw [if_neg h]; simp [h]
theorem impl_IsAdmissible_l (n : Int) (A : List (List Int)) (S : List Int) (hA : A.length ≤ 1048576) (hS : S.length ≤ 1048576) : ∀ (d k i : Nat), i + d = S.length → d + A.length + S.length + 70 < k → impl_IsAdmissible.l0 k S S (S.length : Int) i n A = some ((S.drop i).all fun c => defends n A S c) := by
  intro d
  induction d with
  | zero =>
    intro k i hd hk
    obtain ⟨k, rfl⟩ := rounds_succ hk
    simp only [impl_IsAdmissible.l0]; rw [if_neg (by omega), List.drop_eq_nil_of_le (by omega)]; simp
  | succ d ih =>
    intro k i hd hk
    obtain ⟨k, rfl⟩ := rounds_succ hk
    simp only [impl_IsAdmissible.l0]; rw [if_pos (by omega), if_pos (by omega), if_pos (by omega), impl_Defends_eq n A S _ hA hS k (by omega), Option.bind_some, wrs (by omega), ih k (i + 1) (by omega) (by omega), rd_drop S i (by omega), List.all_cons]
    cases defends n A S (rd S (i : Int)) <;> simp
theorem impl_IsAdmissible_eq (n : Int) (A : List (List Int)) (S : List Int) (hA : A.length ≤ 1048576) (hS : S.length ≤ 1048576) (k : Nat) (hk : A.length + 3 * S.length + 80 < k) : impl_IsAdmissible.f k n A S = some (admb n A S) := by
  unfold impl_IsAdmissible.f admb
  have := impl_IsAdmissible_l n A S hA hS S.length k 0 (by omega) (by omega)
  simp only [List.drop_zero, Int.natCast_zero] at this
  rw [impl_IsFree_eq n A S hA hS k (by omega), Option.bind_some, this]
  cases freeb n A S <;> simp
theorem spec_IsSet_l (n : Int) (A : List (List Int)) (S : List Int) (hS : S.length ≤ 1048576) (hn : 0 ≤ n ∧ n ≤ 10) : ∀ (d k i : Nat), i + d = S.length → d < k → spec_IsSet.l0 k S i n A = some (sl (n - 1) (prevS S i) (S.drop i)) := by
  intro d
  induction d with
  | zero =>
    intro k i hd hk
    obtain ⟨k, rfl⟩ := rounds_succ hk
    simp only [spec_IsSet.l0]; rw [if_neg (by omega), List.drop_eq_nil_of_le (by omega)]
    simp [sl]
  | succ d ih =>
    intro k i hd hk
    obtain ⟨k, rfl⟩ := rounds_succ hk
    have hnext := ih k (i + 1) (by omega) (by omega)
    rw [prevS_succ] at hnext
    simp only [spec_IsSet.l0]; rw [if_pos (by omega), if_pos (by omega), wr (i := n - 1) (by omega) (by omega), spec_l1In_eq, Option.bind_some, wrs (by omega), hnext, drop_rdS S i (by omega)]
    simp only [sl]
    generalize rd S (i : Int) = c
    by_cases h1 : 0 ≤ c ∧ c ≤ n - 1
    · rw [if_pos (by simp only [h1, and_self, decide_true])]
      simp only [h1, and_self, decide_true, Bool.true_and]
      by_cases hi : i = 0
      · subst hi
        rw [if_neg (by omega)]; simp [prevS]
      · have e1 : prevS S i = some (rd S ((i - 1 : Nat) : Int)) := by unfold prevS; rw [if_neg hi]
        rw [e1, if_pos (by omega), show wrap64 ((i : Int) - 1) = ((i - 1 : Nat) : Int) by rw [wr (by omega) (by omega)]; omega, if_pos (by omega), if_pos (by omega)]
        generalize rd S ((i - 1 : Nat) : Int) = q
        by_cases h2 : q ≥ c
        · rw [if_pos h2]
          have : decide (q < c) = false := by simp; omega
          simp [this]
        · rw [if_neg h2]
          have : decide (q < c) = true := by simp; omega
          simp [this]
    · rw [if_neg (by simp only [h1, decide_false, Bool.false_eq_true, not_false_eq_true])]; simp [h1]
theorem spec_IsSet_eq (n : Int) (A : List (List Int)) (S : List Int) (hA : A.length ≤ 1048576) (hS : S.length ≤ 1048576) (k : Nat) (hk : 2 * A.length + S.length + 1 < k) : spec_IsSet.f k n A S = some (isS n A S) := by
  unfold spec_IsSet.f isS
  rw [spec_IsGraph_eq n A hA k (by omega), Option.bind_some]
  by_cases h : isG n A = true
  · have := spec_IsSet_l n A S hS (isG_ok h).1 S.length k 0 (by omega) (by omega)
    rw [show ((0 : Nat) : Int) = 0 from rfl] at this
    rw [if_pos h, this, h]; simp [prevS]
  · rw [if_neg h]; simp [h]
theorem spec_l4Has_l (S : List Int) (c : Int) (hS : S.length ≤ 1099511627776) : ∀ (d k i : Nat), i + d = S.length → d < k → spec_l4Has.l0 k S c i = some (decide (c ∈ S.drop i)) := by
  intro d
  induction d with
  | zero =>
    intro k i hd hk
    obtain ⟨k, rfl⟩ := rounds_succ hk
    simp only [spec_l4Has.l0]; rw [if_neg (by omega), List.drop_eq_nil_of_le (by omega)]; simp
  | succ d ih =>
    intro k i hd hk
    obtain ⟨k, rfl⟩ := rounds_succ hk
    simp only [spec_l4Has.l0]; rw [if_pos (by omega), if_pos (by omega), wrs (by omega), ih k (i + 1) (by omega) (by omega)]
    have e : S.drop i = rd S i :: S.drop (i + 1) := by rw [rd_nat S i (by omega)]; exact List.drop_eq_getElem_cons _
    rw [e]
    by_cases h : rd S (i : Int) = c
    · rw [if_pos h]; simp [h]
    · rw [if_neg h]
      have : ¬ c = rd S (i : Int) := fun e => h e.symm
      simp [this]
theorem spec_l4Has_eq (S : List Int) (c : Int) (hS : S.length ≤ 1099511627776) (k : Nat) (hk : S.length < k) : spec_l4Has.f k S c = some (decide (c ∈ S)) := by
  have := spec_l4Has_l S c hS S.length k 0 (by omega) hk
  unfold spec_l4Has.f
  simpa using this
theorem hitb_drop (A : List (List Int)) (S : List Int) (k : Int) (i : Nat) (hi : i < A.length) : hitb (A.drop i) S k = (((rd (rd_L1 A (i : Int)) 1 == k) && S.contains (rd (rd_L1 A (i : Int)) 0)) || hitb (A.drop (i + 1)) S k) := by
  rw [rdL_drop A i hi]; unfold hitb; rw [List.any_cons]
theorem cl_from (n : Int) (i : Nat) (hi : (i : Int) < n) : (cl n).drop i = (i : Int) :: (cl n).drop (i + 1) := by
  have hl : i < (cl n).length := by rw [cl_length]; omega
  rw [List.drop_eq_getElem_cons hl]
  congr 1
  simp [cl]
theorem spec_HitBy_l1 (n : Int) (A : List (List Int)) (S : List Int) (c : Int) (o : List Int) (hA : A.length ≤ 1048576) (hS : S.length ≤ 1048576) (hg : isG n A = true) : ∀ (d k i : Nat) (b : Bool), i + d = A.length → o.length ≤ 16 → d + S.length + 1 < k → spec_HitBy.l1 k S o c b i n A = spec_HitBy.l0 (k - d - 1) S (if (b || hitb (A.drop i) S c) = true then o ++ [c] else o) (wrap64 (c + 1)) n A := by
  intro d
  induction d with
  | zero =>
    intro k i b hd ho hk
    obtain ⟨k, rfl⟩ := rounds_succ hk
    simp only [spec_HitBy.l1]; rw [if_neg (by omega), List.drop_eq_nil_of_le (by omega)]
    have : hitb [] S c = false := rfl
    rw [this, Bool.or_false]
    cases b
    · simp
    · simp; omega
  | succ d ih =>
    intro k i b hd ho hk
    obtain ⟨k, rfl⟩ := rounds_succ hk
    have h2 := isG_len2 hg i (by omega)
    rw [show k + 1 - (d + 1) - 1 = k - d - 1 by omega]
    simp only [spec_HitBy.l1]; rw [if_pos (by omega), wrs (by omega)]
    cases b with
    | true =>
      rw [if_pos rfl, ih k (i + 1) true (by omega) ho (by omega)]; simp
    | false =>
      rw [if_neg (by simp), if_pos (by omega), hitb_drop A S c i (by omega)]
      generalize rd_L1 A (i : Int) = p at h2 ⊢
      rw [if_pos (by omega)]
      by_cases h : rd p 1 = c
      · rw [if_pos h, if_pos (by omega), spec_l4Has_eq S _ (by omega) k (by omega), Option.bind_some, ih k (i + 1) _ (by omega) ho (by omega)]
        simp [h]
      · rw [if_neg h, ih k (i + 1) false (by omega) ho (by omega)]
        simp [h]
theorem spec_HitBy_l0 (n : Int) (A : List (List Int)) (S : List Int) (hA : A.length ≤ 1048576) (hS : S.length ≤ 1048576) (hg : isG n A = true) : ∀ (d k i : Nat) (o : List Int), i + d = n.toNat → o.length ≤ i → d * (A.length + 3) + 2 * A.length + S.length + 9 < k → spec_HitBy.l0 k S o i n A = some (o ++ ((cl n).drop i).filter (hitb A S)) := by
  have hn := (isG_ok hg).1
  intro d
  induction d with
  | zero =>
    intro k i o hd ho hk
    obtain ⟨k, rfl⟩ := rounds_succ hk
    obtain ⟨k, rfl⟩ := rounds_succ (show 0 < k by omega)
    simp only [spec_HitBy.l0, spec_HitBy.j1]; rw [if_neg (by omega), if_neg (by simp), List.drop_eq_nil_of_le (by rw [cl_length]; omega)]; simp
  | succ d ih =>
    intro k i o hd ho hk
    rw [Nat.succ_mul] at hk
    obtain ⟨k, rfl⟩ := rounds_succ hk
    obtain ⟨k, rfl⟩ := rounds_succ (show 0 < k by omega)
    simp only [spec_HitBy.l0]; rw [if_pos (by omega), spec_IsGraph_eq n A hA (k + 1) (by omega), Option.bind_some, hg]
    simp only [spec_HitBy.j1]; rw [if_pos trivial, show (0 : Int) = ((0 : Nat) : Int) from rfl, spec_HitBy_l1 n A S i o hA hS hg A.length k 0 false (by omega) (by omega) (by omega), wrs (by omega), Bool.false_or, List.drop_zero]
    by_cases h : hitb A S (i : Int) = true
    · rw [if_pos h, ih _ (i + 1) _ (by omega) (by rw [List.length_append, List.length_singleton]; omega) (by omega), cl_from n i (by omega), List.filter_cons_of_pos h, List.append_assoc]; rfl
    · rw [if_neg h, ih _ (i + 1) _ (by omega) (by omega) (by omega), cl_from n i (by omega), List.filter_cons_of_neg h]
theorem spec_HitBy_eq (n : Int) (A : List (List Int)) (S : List Int) (hA : A.length ≤ 1048576) (hS : S.length ≤ 1048576) (k : Nat) (hk : 12 * A.length + S.length + 40 < k) : spec_HitBy.f k n A S = some (hitG n A S) := by
  unfold spec_HitBy.f hitG
  by_cases h : isG n A = true
  · rw [if_pos h]
    have hn := (isG_ok h).1
    have hm : n.toNat * (A.length + 3) ≤ 10 * (A.length + 3) := Nat.mul_le_mul_right _ (by omega)
    have := spec_HitBy_l0 n A S hA hS h n.toNat k 0 [] (by omega) (by simp) (by omega)
    simpa [hit] using this
  · rw [if_neg h]
    obtain ⟨k, rfl⟩ := rounds_succ hk
    obtain ⟨k, rfl⟩ := rounds_succ (show 0 < k by omega)
    have hf : isG n A = false := by simpa using h
    simp only [spec_HitBy.l0]
    rw [spec_IsGraph_eq n A hA (k + 1) (by omega), Option.bind_some, hf]
    simp only [spec_HitBy.j1]
    split <;> simp
theorem spec_AttackersOf_l (n : Int) (A : List (List Int)) (c : Int) (hA : A.length ≤ 1048576) (hg : isG n A = true) : ∀ (d k i : Nat) (o : List Int), i + d = A.length → o.length ≤ i → 2 * d + 2 * A.length + 3 < k → spec_AttackersOf.l0 k c o i n A = some (o ++ attA (A.drop i) c) := by
  intro d
  induction d with
  | zero =>
    intro k i o hd ho hk
    obtain ⟨k, rfl⟩ := rounds_succ hk
    obtain ⟨k, rfl⟩ := rounds_succ (show 0 < k by omega)
    simp only [spec_AttackersOf.l0, spec_AttackersOf.j1]; rw [if_neg (by omega), if_neg (by simp), List.drop_eq_nil_of_le (by omega)]; simp [attA]
  | succ d ih =>
    intro k i o hd ho hk
    obtain ⟨k, rfl⟩ := rounds_succ hk
    obtain ⟨k, rfl⟩ := rounds_succ (show 0 < k by omega)
    have h2 := isG_len2 hg i (by omega)
    simp only [spec_AttackersOf.l0]; rw [if_pos (by omega), spec_IsGraph_eq n A hA (k + 1) (by omega), Option.bind_some, hg]
    simp only [spec_AttackersOf.j1]; rw [if_pos trivial, if_pos (by omega), if_pos (by omega), if_pos (by omega), wrs (by omega), rdL_drop A i (by omega)]
    generalize rd_L1 A (i : Int) = p at h2 ⊢
    by_cases h : rd p 1 = c
    · rw [if_pos h, if_pos (by omega), if_pos (by omega), ih k (i + 1) _ (by omega) (by rw [List.length_append, List.length_singleton]; omega) (by omega)]
      simp [attA, h]
    · rw [if_neg h, ih k (i + 1) _ (by omega) (by omega) (by omega)]
      simp [attA, h]
theorem spec_AttackersOf_eq (n : Int) (A : List (List Int)) (c : Int) (hA : A.length ≤ 1048576) (k : Nat) (hk : 4 * A.length + 3 < k) : spec_AttackersOf.f k n A c = some (att n A c) := by
  unfold spec_AttackersOf.f att
  by_cases h : isG n A = true
  · rw [if_pos h]
    have := spec_AttackersOf_l n A c hA h A.length k 0 [] (by omega) (by simp) (by omega)
    simpa using this
  · rw [if_neg h]
    obtain ⟨k, rfl⟩ := rounds_succ hk
    obtain ⟨k, rfl⟩ := rounds_succ (show 0 < k by omega)
    have hf : isG n A = false := by simpa using h
    simp only [spec_AttackersOf.l0]
    rw [spec_IsGraph_eq n A hA (k + 1) (by omega), Option.bind_some, hf]
    simp only [spec_AttackersOf.j1]
    split <;> simp
theorem spec_Defends_l (H L : List Int) (hH : H.length ≤ 10) (hL : L.length ≤ 1048576) : ∀ (d k i : Nat), i + d = L.length → d + 20 < k → spec_Defends.l0 k H L i = some ((L.drop i).all fun a => decide (a ∈ H)) := by
  intro d
  induction d with
  | zero =>
    intro k i hd hk
    obtain ⟨k, rfl⟩ := rounds_succ hk
    simp only [spec_Defends.l0]; rw [if_neg (by omega), List.drop_eq_nil_of_le (by omega)]; simp
  | succ d ih =>
    intro k i hd hk
    obtain ⟨k, rfl⟩ := rounds_succ hk
    simp only [spec_Defends.l0]; rw [if_pos (by omega), if_pos (by omega), spec_l4Has_eq H _ (by omega) k (by omega), Option.bind_some, wrs (by omega), ih k (i + 1) (by omega) (by omega), rd_drop L i (by omega), List.all_cons]
    by_cases h : rd L (i : Int) ∈ H
    · rw [if_pos (by simpa using h)]; simp [h]
    · rw [if_neg (by simpa using h)]; simp [h]
theorem spec_Defends_eq (n : Int) (A : List (List Int)) (S : List Int) (c : Int) (hA : A.length ≤ 1048576) (hS : S.length ≤ 1048576) (k : Nat) (hk : 12 * A.length + S.length + 60 < k) : spec_Defends.f k n A S c = some (defends n A S c) := by
  obtain ⟨k, rfl⟩ := rounds_succ hk
  unfold spec_Defends.f defends
  rw [spec_IsSet_eq n A S hA hS (k + 1) (by omega), Option.bind_some]
  simp only [spec_Defends.j0]
  by_cases h : isS n A S = true
  · have hn := (isG_ok (isS_ok h).1).1
    have hl := att_len n A c
    rw [if_pos h, wr (i := n - 1) (by omega) (by omega), spec_l1In_eq, Option.bind_some, h, Bool.true_and]
    by_cases h1 : 0 ≤ c ∧ c ≤ n - 1
    · have := spec_Defends_l (hitG n A S) (att n A c) (hitG_len n A S) (by omega) (att n A c).length k 0 (by omega) (by omega)
      simp only [List.drop_zero, Int.natCast_zero] at this
      rw [if_neg (by simp [h1]), spec_HitBy_eq n A S hA hS k (by omega), Option.bind_some, spec_AttackersOf_eq n A c hA k (by omega), Option.bind_some, this]
      simp [h1]
    · have h1b : decide (0 ≤ c ∧ c ≤ n - 1) = false := decide_eq_false h1
      rw [h1b]; simp
  · rw [if_neg h]; simp [h]
theorem spec_IsFree_l (n : Int) (A : List (List Int)) (S H : List Int) (hA : A.length ≤ 1048576) (hS : S.length ≤ 1048576) (hH : H.length ≤ 10) : ∀ (d k i : Nat), i + d = S.length → d + 2 * A.length + S.length + 20 < k → spec_IsFree.l0 k S H i n A = some (((S.drop i).all fun c => !decide (c ∈ H)) && isS n A S) := by
  intro d
  induction d with
  | zero =>
    intro k i hd hk
    obtain ⟨k, rfl⟩ := rounds_succ hk
    simp only [spec_IsFree.l0]; rw [if_neg (by omega), List.drop_eq_nil_of_le (by omega), spec_IsSet_eq n A S hA hS k (by omega), Option.bind_some]; simp
  | succ d ih =>
    intro k i hd hk
    obtain ⟨k, rfl⟩ := rounds_succ hk
    simp only [spec_IsFree.l0]; rw [if_pos (by omega), if_pos (by omega), spec_l4Has_eq H _ (by omega) k (by omega), Option.bind_some, wrs (by omega), ih k (i + 1) (by omega) (by omega), rd_drop S i (by omega), List.all_cons]
    by_cases h : rd S (i : Int) ∈ H
    · rw [if_pos (by simpa using h)]; simp [h]
    · rw [if_neg (by simpa using h)]; simp [h]
theorem spec_IsFree_eq (n : Int) (A : List (List Int)) (S : List Int) (hA : A.length ≤ 1048576) (hS : S.length ≤ 1048576) (k : Nat) (hk : 12 * A.length + 2 * S.length + 60 < k) : spec_IsFree.f k n A S = some (freeb n A S) := by
  unfold spec_IsFree.f freeb
  have := spec_IsFree_l n A S (hitG n A S) hA hS (hitG_len n A S) S.length k 0 (by omega) (by omega)
  rw [spec_HitBy_eq n A S hA hS k (by omega), Option.bind_some]
  rw [Bool.and_comm]
  simpa using this
theorem spec_IsAdmissible_l (n : Int) (A : List (List Int)) (S : List Int) (hA : A.length ≤ 1048576) (hS : S.length ≤ 1048576) : ∀ (d k i : Nat), i + d = S.length → d + 12 * A.length + 2 * S.length + 70 < k → spec_IsAdmissible.l0 k S i n A = some (((S.drop i).all fun c => defends n A S c) && freeb n A S) := by
  intro d
  induction d with
  | zero =>
    intro k i hd hk
    obtain ⟨k, rfl⟩ := rounds_succ hk
    simp only [spec_IsAdmissible.l0]; rw [if_neg (by omega), List.drop_eq_nil_of_le (by omega), spec_IsFree_eq n A S hA hS k (by omega), Option.bind_some]; simp
  | succ d ih =>
    intro k i hd hk
    obtain ⟨k, rfl⟩ := rounds_succ hk
    simp only [spec_IsAdmissible.l0]; rw [if_pos (by omega), if_pos (by omega), spec_Defends_eq n A S _ hA hS k (by omega), Option.bind_some, wrs (by omega), ih k (i + 1) (by omega) (by omega), rd_drop S i (by omega), List.all_cons]
    cases defends n A S (rd S (i : Int)) <;> simp
theorem spec_IsAdmissible_eq (n : Int) (A : List (List Int)) (S : List Int) (hA : A.length ≤ 1048576) (hS : S.length ≤ 1048576) (k : Nat) (hk : 12 * A.length + 3 * S.length + 80 < k) : spec_IsAdmissible.f k n A S = some (admb n A S) := by
  unfold spec_IsAdmissible.f admb
  have := spec_IsAdmissible_l n A S hA hS S.length k 0 (by omega) (by omega)
  rw [Bool.and_comm]
  simpa using this
def stableb (n : Int) (A : List (List Int)) (S : List Int) : Bool := freeb n A S && (cl n).all fun c => decide (c ∈ S) || decide (c ∈ hitG n A S)
theorem cl_at (n : Int) (i : Nat) (hi : (i : Int) < n) : (cl n).drop i = (i : Int) :: (cl n).drop (i + 1) := by
  have hl : i < (cl n).length := by rw [cl_length]; omega
  rw [List.drop_eq_getElem_cons hl]
  congr 1
  simp [cl]
theorem freeb_ok {n : Int} {A : List (List Int)} {S : List Int} (h : freeb n A S = true) : isS n A S = true := by
  unfold freeb at h; rw [Bool.and_eq_true] at h; exact h.1
theorem impl_IsStable_l (n : Int) (S H : List Int) (hS : S.length ≤ 1048576) (hH : H.length ≤ 10) (hn : 0 ≤ n ∧ n ≤ 10) : ∀ (d k i : Nat), i + d = n.toNat → d + S.length + 20 < k → impl_IsStable.l0 k S H n i = some (((cl n).drop i).all fun c => decide (c ∈ S) || decide (c ∈ H)) := by
  intro d
  induction d with
  | zero =>
    intro k i hd hk
    obtain ⟨k, rfl⟩ := rounds_succ hk
    simp only [impl_IsStable.l0]; rw [if_neg (by omega), List.drop_eq_nil_of_le (by rw [cl_length]; omega)]; simp
  | succ d ih =>
    intro k i hd hk
    obtain ⟨k, rfl⟩ := rounds_succ hk
    simp only [impl_IsStable.l0]; rw [if_pos (by omega), contains_eq S _ (by omega) k (by omega), Option.bind_some, contains_eq H _ (by omega) k (by omega), Option.bind_some, wrs (by omega), ih k (i + 1) (by omega) (by omega), cl_at n i (by omega), List.all_cons]
    by_cases h : (i : Int) ∈ S
    · rw [if_pos (by simpa using h)]; simp [h]
    · rw [if_neg (by simpa using h)]
      by_cases h2 : (i : Int) ∈ H
      · rw [if_pos (by simpa using h2)]; simp [h2]
      · rw [if_neg (by simpa using h2)]; simp [h, h2]
theorem impl_IsStable_eq (n : Int) (A : List (List Int)) (S : List Int) (hA : A.length ≤ 1048576) (hS : S.length ≤ 1048576) (k : Nat) (hk : A.length + S.length + 60 < k) : impl_IsStable.f k n A S = some (stableb n A S) := by
  unfold impl_IsStable.f stableb
  rw [impl_IsFree_eq n A S hA hS k (by omega), Option.bind_some]
  by_cases h : freeb n A S = true
  · have hn := (isG_ok (isS_ok (freeb_ok h)).1).1
    rw [if_pos h, impl_HitBy_eq n A S hA hS k (by omega), Option.bind_some, show (0 : Int) = ((0 : Nat) : Int) from rfl, impl_IsStable_l n S (hitG n A S) hS (hitG_len n A S) hn n.toNat k 0 (by omega) (by omega), List.drop_zero, h, Bool.true_and]
  · rw [if_neg h]; simp [h]
def dbyG (n : Int) (A : List (List Int)) (S : List Int) : List Int := if isS n A S = true then (cl n).filter (defends n A S) else []
theorem clx_at (n : Int) (i : Nat) (hi : (i : Int) < n) : (cl n).drop i = (i : Int) :: (cl n).drop (i + 1) := by
  have hl : i < (cl n).length := by rw [cl_length]; omega
  rw [List.drop_eq_getElem_cons hl]
  congr 1
  simp [cl]
theorem dbyG_len (n : Int) (A : List (List Int)) (S : List Int) : (dbyG n A S).length ≤ 10 := by
  unfold dbyG
  split
  · rename_i h
    have := (isG_ok (isS_ok h).1).1
    have h2 := List.length_filter_le (defends n A S) (cl n)
    rw [cl_length] at h2; omega
  · simp
theorem impl_DefendedBy_l (n : Int) (A : List (List Int)) (S : List Int) (hA : A.length ≤ 1048576) (hS : S.length ≤ 1048576) (hn : 0 ≤ n ∧ n ≤ 10) : ∀ (d k i : Nat) (o : List Int), i + d = n.toNat → o.length ≤ i → d + A.length + S.length + 70 < k → impl_DefendedBy.l0 k S o n i n A = some (o ++ ((cl n).drop i).filter (defends n A S)) := by
  intro d
  induction d with
  | zero =>
    intro k i o hd ho hk
    obtain ⟨k, rfl⟩ := rounds_succ hk
    simp only [impl_DefendedBy.l0]; rw [if_neg (by omega), List.drop_eq_nil_of_le (by rw [cl_length]; omega)]; simp
  | succ d ih =>
    intro k i o hd ho hk
    obtain ⟨k, rfl⟩ := rounds_succ hk
    simp only [impl_DefendedBy.l0]; rw [if_pos (by omega), impl_Defends_eq n A S _ hA hS k (by omega), Option.bind_some, wrs (by omega), clx_at n i (by omega)]
    by_cases h : defends n A S (i : Int) = true
    · rw [if_pos h, if_pos (by omega), ih k (i + 1) _ (by omega) (by rw [List.length_append, List.length_singleton]; omega) (by omega), List.filter_cons_of_pos h, List.append_assoc]; rfl
    · rw [if_neg h, ih k (i + 1) _ (by omega) (by omega) (by omega), List.filter_cons_of_neg h]
theorem impl_DefendedBy_eq (n : Int) (A : List (List Int)) (S : List Int) (hA : A.length ≤ 1048576) (hS : S.length ≤ 1048576) (k : Nat) (hk : A.length + S.length + 90 < k) : impl_DefendedBy.f k n A S = some (dbyG n A S) := by
  unfold impl_DefendedBy.f dbyG
  rw [Option.bind_some, impl_IsSet_eq n A S hA hS k (by omega), Option.bind_some]
  by_cases hs : isS n A S = true
  · have hn := (isG_ok (isS_ok hs).1).1
    have := impl_DefendedBy_l n A S hA hS hn n.toNat k 0 [] (by omega) (by simp) (by omega)
    rw [if_pos hs, if_pos hs]
    simpa using this
  · rw [if_neg hs, if_neg hs]
theorem laws_contains_l (S : List Int) (c : Int) (hS : S.length ≤ 1048576) : ∀ (d k i : Nat), i + d = S.length → d < k → laws_contains.l0 k S c i = some (decide (c ∈ S.drop i)) := by
  intro d
  induction d with
  | zero =>
    intro k i hd hk
    obtain ⟨k, rfl⟩ := rounds_succ hk
    simp only [laws_contains.l0]; rw [if_neg (by omega), List.drop_eq_nil_of_le (by omega)]; simp
  | succ d ih =>
    intro k i hd hk
    obtain ⟨k, rfl⟩ := rounds_succ hk
    simp only [laws_contains.l0]; rw [if_pos (by omega), if_pos (by omega), wrs (by omega), ih k (i + 1) (by omega) (by omega), drop_rdS S i (by omega)]
    by_cases h : rd S (i : Int) = c
    · rw [if_pos h]; simp [h]
    · rw [if_neg h]
      have : ¬ c = rd S (i : Int) := fun e => h e.symm
      simp [this]
theorem laws_contains_eq (S : List Int) (c : Int) (hS : S.length ≤ 1048576) (k : Nat) (hk : S.length < k) : laws_contains.f k S c = some (decide (c ∈ S)) := by
  have := laws_contains_l S c hS S.length k 0 (by omega) hk
  unfold laws_contains.f
  simpa using this
theorem laws_within_l (a b : List Int) (ha : a.length ≤ 1048576) (hb : b.length ≤ 1048576) (h : ∀ x ∈ a, x ∈ b) : ∀ (d k i : Nat), i + d = a.length → d + b.length < k → laws_within.l0 k a b i = some true := by
  intro d
  induction d with
  | zero =>
    intro k i hd hk
    obtain ⟨k, rfl⟩ := rounds_succ hk
    simp only [laws_within.l0]; rw [if_neg (by omega)]
  | succ d ih =>
    intro k i hd hk
    obtain ⟨k, rfl⟩ := rounds_succ hk
    have hm : rd a (i : Int) ∈ b := h _ (by rw [rd_nat a i (by omega)]; exact List.getElem_mem _)
    simp only [laws_within.l0]; rw [if_pos (by omega), if_pos (by omega), laws_contains_eq b _ hb k (by omega), Option.bind_some, if_pos (by simp [hm]), wrs (by omega)]
    exact ih k (i + 1) (by omega) (by omega)
theorem laws_within_yes (a b : List Int) (ha : a.length ≤ 1048576) (hb : b.length ≤ 1048576) (h : ∀ x ∈ a, x ∈ b) (k : Nat) (hk : a.length + b.length < k) : laws_within.f k a b = some true :=
  laws_within_l a b ha hb h a.length k 0 (by omega) (by omega)
theorem laws_ascends_l (S : List Int) (hS : S.length ≤ 1048576) (h : S.Pairwise (· < ·)) : ∀ (d k i : Nat), 1 ≤ i → i + d = max S.length 1 → d < k → laws_ascends.l0 k S i = some true := by
  intro d
  induction d with
  | zero =>
    intro k i h1 hd hk
    obtain ⟨k, rfl⟩ := rounds_succ hk
    simp only [laws_ascends.l0]; rw [if_neg (by omega)]
  | succ d ih =>
    intro k i h1 hd hk
    obtain ⟨k, rfl⟩ := rounds_succ hk
    have hi : i < S.length := by omega
    have hlt := List.pairwise_iff_getElem.1 h (i - 1) i (by omega) hi (by omega)
    simp only [laws_ascends.l0]; rw [if_pos (by omega), wr (i := (i : Int) - 1) (by omega) (by omega), if_pos (by omega), if_pos (by omega), if_pos (by omega), show (i : Int) - 1 = ((i - 1 : Nat) : Int) by omega, rd_nat S (i - 1) (by omega), rd_nat S i hi, if_neg (by omega), wrs (by omega)]
    exact ih k (i + 1) (by omega) (by omega) (by omega)
theorem laws_ascends_yes (S : List Int) (hS : S.length ≤ 1048576) (h : S.Pairwise (· < ·)) (k : Nat) (hk : S.length + 1 < k) : laws_ascends.f k S = some true :=
  laws_ascends_l S hS h (max S.length 1 - 1) k 1 (by omega) (by omega) (by omega)
theorem sl_mk (m : Int) : ∀ (S : List Int) (q : Option Int), (∀ c ∈ S, 0 ≤ c ∧ c ≤ m) → S.Pairwise (· < ·) → (∀ x, q = some x → ∀ c ∈ S, x < c) → sl m q S = true := by
  intro S
  induction S with
  | nil => intro q _ _ _; simp [sl]
  | cons c S ih =>
    intro q h1 h2 h3
    rw [List.pairwise_cons] at h2
    have hc := h1 c (List.mem_cons_self ..)
    have hi := ih (some c) (fun x hx => h1 x (List.mem_cons_of_mem _ hx)) h2.2 (fun x e d hd => by cases e; exact h2.1 d hd)
    cases q with
    | none => simp [sl, hc, hi]
    | some x =>
      have := h3 x rfl c (List.mem_cons_self ..)
      simp [sl, hc, hi, this]
theorem isS_mk {n : Int} {A : List (List Int)} {S : List Int} (hg : isG n A = true) (h1 : ∀ c ∈ S, 0 ≤ c ∧ c < n) (h2 : S.Pairwise (· < ·)) : isS n A S = true := by
  unfold isS
  rw [hg, Bool.true_and]
  exact sl_mk (n - 1) S none (fun c hc => by have := h1 c hc; omega) h2 (fun x e => by cases e)
theorem defends_defb {n : Int} {A : List (List Int)} {S : List Int} {c : Int} (hs : isS n A S = true) (hc : c ∈ cl n) : defends n A S c = defb A S c := by
  have hg := (isS_ok hs).1
  rw [mem_cl] at hc
  unfold defends
  rw [hs, Bool.true_and, decide_eq_true (by omega), Bool.true_and]
  rw [Bool.eq_iff_iff, defb_iff]
  unfold att hitG; rw [if_pos hg, if_pos hg]; unfold attA
  simp only [List.all_eq_true, decide_eq_true_eq, List.mem_map, List.mem_filter, beq_iff_eq]
  constructor
  · intro h p hp e
    exact (mem_hit hg _).1 (h _ ⟨p, ⟨hp, e⟩, rfl⟩)
  · rintro h a ⟨p, ⟨hp, e⟩, rfl⟩
    exact (mem_hit hg _).2 (h p hp e)
theorem dbyG_dby {n : Int} {A : List (List Int)} {S : List Int} (hs : isS n A S = true) : dbyG n A S = dby A n S := by
  unfold dbyG dby
  rw [if_pos hs]
  exact List.filter_congr fun c hc => defends_defb hs hc
theorem dby_isS {n : Int} {A : List (List Int)} (hg : isG n A = true) (S : List Int) : isS n A (dby A n S) = true :=
  isS_mk hg (fun c hc => (mem_cl n c).1 (List.mem_filter.1 hc).1) ((cl_sorted n).sublist List.filter_sublist)
theorem mem_att {n : Int} {A : List (List Int)} (hg : isG n A = true) (c a : Int) : a ∈ att n A c ↔ ∃ p ∈ A, rd p 1 = c ∧ rd p 0 = a := by
  unfold att; rw [if_pos hg]; unfold attA
  simp only [List.mem_map, List.mem_filter, beq_iff_eq]
  constructor
  · rintro ⟨p, ⟨hp, e⟩, rfl⟩; exact ⟨p, hp, e, rfl⟩
  · rintro ⟨p, hp, e, rfl⟩; exact ⟨p, ⟨hp, e⟩, rfl⟩
theorem mem_hitG {n : Int} {A : List (List Int)} {S : List Int} (hg : isG n A = true) (k : Int) : k ∈ hitG n A S ↔ hitb A S k = true := by
  unfold hitG; rw [if_pos hg]; exact mem_hit hg k
theorem freeb_Free {n : Int} {A : List (List Int)} {S : List Int} (h : freeb n A S = true) : Free A S := by
  have hs := freeb_ok h
  have hg := (isS_ok hs).1
  unfold freeb at h
  rw [Bool.and_eq_true, List.all_eq_true] at h
  intro s hm
  have := h.2 s hm
  cases e : hitb A S s with
  | false => rfl
  | true => simp [(mem_hitG hg s).2 e] at this
theorem freeb_mk {n : Int} {A : List (List Int)} {S : List Int} (hs : isS n A S = true) (hf : Free A S) : freeb n A S = true := by
  have hg := (isS_ok hs).1
  unfold freeb
  rw [Bool.and_eq_true, List.all_eq_true]
  refine ⟨hs, fun s hm => ?_⟩
  have : ¬ s ∈ hitG n A S := fun h => by have h1 := (mem_hitG hg s).1 h; rw [hf s hm] at h1; cases h1
  simp [this]
theorem admb_free {n : Int} {A : List (List Int)} {S : List Int} (h : admb n A S = true) : freeb n A S = true := by
  unfold admb at h; exact (Bool.and_eq_true _ _ ▸ h).1
theorem mem_dbyG {n : Int} {A : List (List Int)} {S : List Int} (hs : isS n A S = true) (c : Int) : c ∈ dbyG n A S ↔ (0 ≤ c ∧ c < n) ∧ defends n A S c = true := by
  unfold dbyG; rw [if_pos hs, List.mem_filter, mem_cl]
theorem admb_within {n : Int} {A : List (List Int)} {S : List Int} (h : admb n A S = true) : ∀ x ∈ S, x ∈ dbyG n A S := by
  intro x hx
  have hs := freeb_ok (admb_free h)
  rw [mem_dbyG hs]
  unfold admb at h
  rw [Bool.and_eq_true, List.all_eq_true] at h
  exact ⟨(isS_ok hs).2.1 x hx, h.2 x hx⟩
theorem dbyG_sorted (n : Int) (A : List (List Int)) (S : List Int) : (dbyG n A S).Pairwise (· < ·) := by
  unfold dbyG
  split
  · exact (cl_sorted n).sublist List.filter_sublist
  · exact List.Pairwise.nil
theorem isS_drop {n : Int} {A : List (List Int)} {S : List Int} (hs : isS n A S = true) (m : Nat) : isS n A (S.drop m) = true := by
  obtain ⟨hg, h1, h2⟩ := isS_ok hs
  exact isS_mk hg (fun c hc => h1 c (List.mem_of_mem_drop hc)) (h2.sublist (List.drop_sublist _ _))
theorem dbyG_drop {n : Int} {A : List (List Int)} {S : List Int} (hs : isS n A S = true) (m : Nat) : ∀ x ∈ dbyG n A (S.drop m), x ∈ dbyG n A S := by
  rw [dbyG_dby (isS_drop hs m), dbyG_dby hs]
  exact dby_mono (fun x hx => List.mem_of_mem_drop hx)
theorem adm_free_d {n : Int} {A : List (List Int)} {S : List Int} (h : admb n A S = true) : freeb n A (dbyG n A S) = true := by
  have hf := admb_free h
  have hs := freeb_ok hf
  rw [dbyG_dby hs]
  exact freeb_mk (dby_isS (isS_ok hs).1 S) (free_dby (freeb_Free hf))
theorem stable_adm {n : Int} {A : List (List Int)} {S : List Int} (h : stableb n A S = true) : admb n A S = true := by
  unfold stableb at h
  rw [Bool.and_eq_true, List.all_eq_true] at h
  obtain ⟨hf, hall⟩ := h
  have hs := freeb_ok hf
  have hF := freeb_Free hf
  obtain ⟨hg, hin, _⟩ := isS_ok hs
  unfold admb
  rw [Bool.and_eq_true, List.all_eq_true]
  refine ⟨hf, fun c hc => ?_⟩
  have hcn := hin c hc
  unfold defends
  rw [hs, Bool.true_and, decide_eq_true (by omega), Bool.true_and, List.all_eq_true]
  intro a ha
  obtain ⟨p, hp, e1, e2⟩ := (mem_att hg c a).1 ha
  have hpn := ((isG_ok hg).2 p hp).2.1
  have := hall a ((mem_cl n a).2 (by omega))
  rw [Bool.or_eq_true, decide_eq_true_eq] at this
  rcases this with h1 | h1
  · have h2 : hitb A S c = true := (hitb_iff A S c).2 ⟨p, hp, e1, by rw [e2]; exact h1⟩
    rw [hF c hc] at h2; cases h2
  · exact h1
theorem free_l0 (n : Int) (A : List (List Int)) (S : List Int) (hA : A.length ≤ 100) (hS : S.length ≤ 100) (hs : isS n A S = true) : ∀ (d k i : Nat), i + d = n.toNat → 2 * d + 1000 < k → laws_FnFree.l0 k S (dbyG n A S) i n A = some true := by
  have hn := (isG_ok (isS_ok hs).1).1
  have hl := dbyG_len n A S
  intro d
  induction d with
  | zero =>
    intro k i hd hk
    obtain ⟨k, rfl⟩ := rounds_succ hk
    obtain ⟨k, rfl⟩ := rounds_succ (show 0 < k by omega)
    simp only [laws_FnFree.l0, laws_FnFree.j3]; rw [if_neg (by omega), if_neg (by simp), impl_IsAdmissible_eq n A S (by omega) (by omega) k (by omega), Option.bind_some]
    by_cases ha : admb n A S = true
    · rw [if_pos ha, impl_IsFree_eq n A _ (by omega) (by omega) k (by omega), Option.bind_some, adm_free_d ha]
    · rw [if_neg ha]
  | succ d ih =>
    intro k i hd hk
    obtain ⟨k, rfl⟩ := rounds_succ hk
    obtain ⟨k, rfl⟩ := rounds_succ (show 0 < k by omega)
    have hl2 := dbyG_len n A (S.drop 1)
    have hd1 : (S.drop 1).length ≤ S.length := by rw [List.length_drop]; omega
    simp only [laws_FnFree.l0]; rw [if_pos (by omega), impl_IsSet_eq n A S (by omega) (by omega) (k + 1) (by omega), Option.bind_some, hs]
    simp only [laws_FnFree.j3]; rw [if_pos trivial, laws_contains_eq _ _ (by omega) k (by omega), Option.bind_some, impl_Defends_eq n A S _ (by omega) (by omega) k (by omega), Option.bind_some]
    have he : decide ((i : Int) ∈ dbyG n A S) = defends n A S i := by
      rw [Bool.eq_iff_iff, decide_eq_true_eq, mem_dbyG hs]
      exact ⟨fun h => h.2, fun h => ⟨by omega, h⟩⟩
    rw [he, if_neg (by simp), wrs (by omega), ih k (i + 1) (by omega) (by omega)]
    by_cases h0 : (S.length : Int) > 0
    · rw [if_pos h0, if_pos (by omega), impl_DefendedBy_eq n A _ (by omega) (by omega) k (by omega), Option.bind_some, laws_within_yes _ _ (by omega) (by omega) (dbyG_drop hs 1) k (by omega), Option.bind_some, if_pos rfl]
    · rw [if_neg h0]
theorem free_j0 (n : Int) (A : List (List Int)) (S : List Int) (hA : A.length ≤ 100) (hS : S.length ≤ 100) (k : Nat) (hk : 3000 < k) : laws_FnFree.j0 k S false n A = some true := by
  obtain ⟨k, rfl⟩ := rounds_succ hk
  have hl := dbyG_len n A S
  have hj1 : laws_FnFree.j1 k S (dbyG n A S) false n A = some true := by
    obtain ⟨k, rfl⟩ := rounds_succ (show 0 < k by omega)
    simp only [laws_FnFree.j1]; rw [if_neg (by simp)]
    by_cases hs : isS n A S = true
    · have hn := (isG_ok (isS_ok hs).1).1
      exact free_l0 n A S hA hS hs n.toNat k 0 (by omega) (by omega)
    · obtain ⟨k, rfl⟩ := rounds_succ (show 0 < k by omega)
      obtain ⟨k, rfl⟩ := rounds_succ (show 0 < k by omega)
      have hf : isS n A S = false := by simpa using hs
      have ha : admb n A S = false := by
        cases h : admb n A S with
        | false => rfl
        | true => exact absurd (freeb_ok (admb_free h)) hs
      have hj3 : laws_FnFree.j3 (k + 1) S (dbyG n A S) 0 false n A = some true := by
        simp only [laws_FnFree.j3]; rw [if_neg (by simp), impl_IsAdmissible_eq n A S (by omega) (by omega) k (by omega), Option.bind_some, ha, if_neg (by simp)]
      simp only [laws_FnFree.l0]
      rw [impl_IsSet_eq n A S (by omega) (by omega) (k + 1) (by omega), Option.bind_some, hf]
      split <;> exact hj3
  simp only [laws_FnFree.j0]
  rw [if_neg (by simp), impl_DefendedBy_eq n A S (by omega) (by omega) k (by omega), Option.bind_some, laws_ascends_yes _ (by omega) (dbyG_sorted n A S) k (by omega), Option.bind_some, if_pos rfl, impl_IsAdmissible_eq n A S (by omega) (by omega) k (by omega), Option.bind_some]
  by_cases ha : admb n A S = true
  · rw [if_pos ha, laws_within_yes _ _ (by omega) (by omega) (admb_within ha) k (by omega), Option.bind_some]
    exact hj1
  · rw [if_neg ha]
    exact hj1
theorem FnFree : laws_FnFree.Pure := by
  intro b _ _ _
  obtain ⟨K, hK⟩ : ∃ K, K = b.length + 20000 := ⟨_, rfl⟩
  refine ⟨K, ?_⟩
  unfold laws_FnFree.f laws_big.f
  rw [Option.bind_some]
  by_cases hb : b.length ≤ 1048576
  · rw [if_neg (by simp; omega)]
    obtain ⟨n, A, S, e, hs, hS⟩ := dSet b hb K (by omega)
    have hA := hs.1
    have e' : spec_DrawIsStable.f K b = some (n, A, S) := by unfold spec_DrawIsStable.f; rw [e, Option.bind_some]
    have q1 := impl_IsAdmissible_eq n A S (by omega) (by omega) K (by omega)
    have q2 := spec_IsAdmissible_eq n A S (by omega) (by omega) K (by omega)
    have q3 := impl_IsStable_eq n A S (by omega) (by omega) K (by omega)
    have q4 := impl_IsFree_eq n A S (by omega) (by omega) K (by omega)
    have q5 := impl_IsSet_eq n A S (by omega) (by omega) K (by omega)
    have hj := free_j0 n A S (by omega) (by omega) K (by omega)
    have h1 : stableb n A S = true → admb n A S = true := stable_adm
    have h2 : admb n A S = true → freeb n A S = true := admb_free
    have h3 : freeb n A S = true → isS n A S = true := freeb_ok
    simp only [e', q1, q2, q3, q4, q5, Option.bind_some, bne_self_eq_false, Bool.false_eq_true, if_false]
    generalize stableb n A S = s1 at h1 ⊢
    generalize admb n A S = s2 at h1 h2 ⊢
    generalize freeb n A S = s3 at h2 h3 ⊢
    generalize isS n A S = s4 at h3 ⊢
    cases s1 <;> cases s2 <;> cases s3 <;> cases s4 <;> first | (simp at h1; done) | (simp at h2; done) | (simp at h3; done) | (simp only [if_true, if_false, Bool.false_eq_true, Bool.not_true, Bool.not_false]; exact hj)
  · rw [if_pos (by simp; omega)]
end Go.Proofs.Ytelkfhlnejlheaa.Pure
