/- An attack that is added is there both ways, and nothing else changes, for all inputs of the law. Conditions: none. -/
import Derived.Test.YtelkfhlnejlheaaGFnGraphsx9
import Derived.OpenShut
namespace Go.Proofs.Ytelkfhlnejlheaa.Pure
open Go.RowKit Go.Proofs.Ytelkfhlnejlheaa.GFnGraphs Go.Proofs.YtelkfhlnejlheaaW.PrintWords Go.Proofs.YtelkfhlnejlheaaW.PrintLast
theorem wr {i : Int} (h0 : -9223372036854775808 ≤ i) (h : i ≤ 9223372036854775807) : wrap64 i = i := by unfold wrap64; omega
theorem wrs {i : Nat} (h : i < 9223372036854775807) : wrap64 ((i : Int) + 1) = ((i + 1 : Nat) : Int) := by unfold wrap64; omega
theorem rd_nat (l : List Int) (i : Nat) (h : i < l.length) : rd l (i : Int) = l[i] := by simp [rd, h]
theorem rounds_succ {d k : Nat} (h : d < k) : ∃ m, k = m + 1 := ⟨k - 1, by omega⟩
theorem rdL_nat (l : List (List Int)) (i : Nat) (h : i < l.length) : rd_L1 l (i : Int) = l[i] := by simp [rd_L1, h]
theorem rdL_mem (l : List (List Int)) (i : Nat) (h : i < l.length) : rd_L1 l (i : Int) ∈ l := by rw [rdL_nat l i h]; exact List.getElem_mem h
theorem rdL_drop (l : List (List Int)) (i : Nat) (h : i < l.length) : l.drop i = rd_L1 l (i : Int) :: l.drop (i + 1) := by rw [rdL_nat l i h]; exact List.drop_eq_getElem_cons h
def okE (w : Int) (p : List Int) : Bool := decide (p.length = 2 ∧ (0 ≤ rd p 0 ∧ rd p 0 ≤ w) ∧ (0 ≤ rd p 1 ∧ rd p 1 ≤ w))
def lexlt (p q : List Int) : Bool := decide (rd p 0 < rd q 0 ∨ (rd p 0 = rd q 0 ∧ rd p 1 < rd q 1))
def gl (w : Int) : Option (List Int) → List (List Int) → Bool
  | _, [] => true
  | prev, p :: R => okE w p && (match prev with | none => true | some q => lexlt q p) && gl w (some p) R
def isG (n : Int) (A : List (List Int)) : Bool := decide (0 ≤ n ∧ n ≤ 10) && gl (n - 1) none A
theorem gl_ok (w : Int) (R : List (List Int)) : ∀ prev, gl w prev R = true → ∀ p ∈ R, okE w p = true := by
  induction R with
  | nil => intro prev _ p hp; cases hp
  | cons q R ih =>
    intro prev h p hp
    simp only [gl, Bool.and_eq_true] at h
    rcases List.mem_cons.1 hp with e | e
    · rw [e]; exact h.1.1
    · exact ih _ h.2 p e
theorem isG_ok {n : Int} {A : List (List Int)} (h : isG n A = true) : (0 ≤ n ∧ n ≤ 10) ∧ ∀ p ∈ A, p.length = 2 ∧ (0 ≤ rd p 0 ∧ rd p 0 < n) ∧ (0 ≤ rd p 1 ∧ rd p 1 < n) := by
  unfold isG at h
  simp only [Bool.and_eq_true, decide_eq_true_eq] at h
  refine ⟨h.1, fun p hp => ?_⟩
  have := gl_ok _ _ _ h.2 p hp
  unfold okE at this
  have := of_decide_eq_true this
  omega
def prevOf (A : List (List Int)) (i : Nat) : Option (List Int) := if i = 0 then none else some (rd_L1 A ((i - 1 : Nat) : Int))
theorem prevOf_succ (A : List (List Int)) (i : Nat) : prevOf A (i + 1) = some (rd_L1 A (i : Int)) := by unfold prevOf; rw [if_neg (by omega)]; rfl
theorem spec_l1In_eq (a b c : Int) : spec_l1In.f a b c = some (decide (b ≤ a ∧ a ≤ c)) := by
  unfold spec_l1In.f; by_cases h : b ≤ a <;> simp [h]
theorem spec_IsGraph_l (n : Int) (A : List (List Int)) (hA : A.length ≤ 1048576) : ∀ (d k i : Nat), i + d = A.length → (∀ j, j < i → (rd_L1 A (j : Int)).length = 2) → 2 * d + 1 < k →
    spec_IsGraph.l0 k i n A = some (gl (wrap64 (n - 1)) (prevOf A i) (A.drop i) && decide (0 ≤ n ∧ n ≤ 10)) := by
  generalize hw : wrap64 (n - 1) = w
  intro d
  induction d with
  | zero =>
    intro k i hd hp hk
    obtain ⟨k, rfl⟩ := rounds_succ hk
    simp only [spec_IsGraph.l0]; rw [if_neg (by omega), List.drop_eq_nil_of_le (by omega), spec_l1In_eq, Option.bind_some]
    simp [gl]
  | succ d ih =>
    intro k i hd hp hk
    obtain ⟨k, rfl⟩ := rounds_succ hk
    obtain ⟨k, rfl⟩ := rounds_succ (show 0 < k by omega)
    simp only [spec_IsGraph.l0]; rw [if_pos (by omega), if_pos (by omega), hw, rdL_drop A i (by omega)]
    simp only [gl]
    generalize hq : rd_L1 A (i : Int) = p
    by_cases h2 : p.length = 2
    · rw [if_pos (by omega), if_pos (by omega), spec_l1In_eq, Option.bind_some]
      by_cases h3 : 0 ≤ rd p 0 ∧ rd p 0 ≤ w
      · rw [if_pos (by simp [h3]), if_pos (by omega), spec_l1In_eq, Option.bind_some]
        by_cases h4 : 0 ≤ rd p 1 ∧ rd p 1 ≤ w
        · have hok : okE w p = true := by unfold okE; simp [h2, h3, h4]
          have hnext := ih k (i + 1) (by omega) (fun j hj => by
            by_cases e : j = i
            · rw [e, hq]; exact h2
            · exact hp j (by omega)) (by omega)
          rw [prevOf_succ, hq] at hnext
          simp only [spec_IsGraph.j1, hok, Bool.true_and]
          rw [if_neg (by simp [h4])]
          by_cases hi : i = 0
          · subst hi
            rw [if_neg (by omega)]
            rw [show wrap64 (((0 : Nat) : Int) + 1) = ((0 + 1 : Nat) : Int) from wrs (by omega), hnext]
            simp [prevOf]
          · have e1 : prevOf A i = some (rd_L1 A ((i - 1 : Nat) : Int)) := by unfold prevOf; rw [if_neg hi]
            have hl := hp (i - 1) (by omega)
            rw [e1]
            rw [if_pos (by omega), show wrap64 ((i : Int) - 1) = ((i - 1 : Nat) : Int) by rw [wr (by omega) (by omega)]; omega]
            generalize rd_L1 A ((i - 1 : Nat) : Int) = q at hl ⊢
            rw [if_pos (by omega), if_pos (by omega), if_pos (by omega), if_pos (by omega), wrs (by omega), hnext]
            by_cases h5 : rd q 0 > rd p 0
            · rw [if_pos h5]
              have : lexlt q p = false := by unfold lexlt; simp; omega
              simp [this]
            · rw [if_neg h5]
              by_cases h6 : rd q 0 = rd p 0
              · rw [if_pos h6, if_pos (by omega), if_pos (by omega)]
                by_cases h7 : rd q 1 ≥ rd p 1
                · rw [if_pos h7]
                  have : lexlt q p = false := by unfold lexlt; simp; omega
                  simp [this]
                · rw [if_neg h7]
                  have : lexlt q p = true := by unfold lexlt; simp; omega
                  simp [this]
              · rw [if_neg h6]
                have : lexlt q p = true := by unfold lexlt; simp; omega
                simp [this]
        · have hok : okE w p = false := by unfold okE; simp; omega
          simp only [spec_IsGraph.j1, hok, Bool.false_and]
          rw [if_pos (by simp; omega)]
      · have hok : okE w p = false := by unfold okE; simp; omega
        rw [if_neg (by simp; omega)]
        simp [spec_IsGraph.j1, hok]
    · have hok : okE w p = false := by unfold okE; simp [h2]
      rw [if_neg (by omega)]
      simp [spec_IsGraph.j1, hok]
theorem spec_IsGraph_eq (n : Int) (A : List (List Int)) (hA : A.length ≤ 1048576) (k : Nat) (hk : 2 * A.length + 1 < k) : spec_IsGraph.f k n A = some (isG n A) := by
  have := spec_IsGraph_l n A hA A.length k 0 (by omega) (fun j hj => by omega) hk
  unfold spec_IsGraph.f isG
  rw [show ((0 : Nat) : Int) = 0 from rfl] at this
  rw [this]
  by_cases h : 0 ≤ n ∧ n ≤ 10
  · rw [wr (i := n - 1) (by omega) (by omega)]; simp [h, prevOf]
  · simp [h]
def ins (a b : Int) : List (List Int) → List (List Int)
  | [] => [[a, b]]
  | x :: R => if rd x 0 > a ∨ (rd x 0 = a ∧ rd x 1 > b) then [a, b] :: x :: R else x :: ins a b R
theorem ins_len (a b : Int) (R : List (List Int)) : (ins a b R).length = R.length + 1 := by
  induction R with
  | nil => rfl
  | cons x R ih => unfold ins; split <;> simp [ih]
theorem ins_mem (a b : Int) (R : List (List Int)) : ∀ r ∈ ins a b R, r = [a, b] ∨ r ∈ R := by
  induction R with
  | nil => intro r hr; simp [ins] at hr; exact .inl hr
  | cons x R ih =>
    intro r hr
    unfold ins at hr
    split at hr
    · rcases List.mem_cons.1 hr with e | e
      · exact .inl e
      · exact .inr e
    · rcases List.mem_cons.1 hr with e | e
      · exact .inr (by rw [e]; exact List.mem_cons_self)
      · rcases ih r e with h | h
        · exact .inl h
        · exact .inr (List.mem_cons_of_mem _ h)
def fin (n : Int) (A O : List (List Int)) : Int × List (List Int) × Bool := if (isG n A && isG n O) = true then (n, O, true) else (n, A, false)
theorem take_snoc (A : List (List Int)) (i : Nat) (h : i < A.length) : A.take i ++ [rd_L1 A (i : Int)] = A.take (i + 1) := by
  rw [rdL_nat A i h, List.take_succ_eq_append_getElem h]
theorem l4Copy_l (n : Int) (A : List (List Int)) (hA : A.length ≤ 1048576) (hr : ∀ r ∈ A, r.length ≤ 1048576) : ∀ (d k i : Nat), i + d = A.length → d < k → spec_l4Copy.l0 k i n A n (A.take i) = some (n, A) := by
  intro d
  induction d with
  | zero =>
    intro k i hd hk
    obtain ⟨k, rfl⟩ := rounds_succ hk
    simp only [spec_l4Copy.l0]; rw [if_neg (by omega), List.take_of_length_le (by omega)]
  | succ d ih =>
    intro k i hd hk
    obtain ⟨k, rfl⟩ := rounds_succ hk
    have hm := hr _ (rdL_mem A i (by omega))
    simp only [spec_l4Copy.l0]; rw [if_pos (by omega), Option.bind_some, if_pos (by omega), if_pos (by simp only [List.length_nil]; omega), if_pos (by rw [List.length_take]; omega), wrs (by omega), List.nil_append, take_snoc A i (by omega)]
    exact ih k (i + 1) (by omega) (by omega)
theorem l4Copy_eq (n : Int) (A : List (List Int)) (hA : A.length ≤ 1048576) (hr : ∀ r ∈ A, r.length ≤ 1048576) (k : Nat) (hk : A.length < k) : spec_l4Copy.f k n A = some (n, A) :=
  l4Copy_l n A hA hr A.length k 0 (by omega) hk
theorem add_j2 (n : Int) (A O : List (List Int)) (hA : A.length ≤ 1000000) (hr : ∀ r ∈ A, r.length ≤ 1048576) (hO : O.length ≤ 1048576) (k : Nat) (hk : 2 * A.length + 2 * O.length + 10 < k) : spec_AddAttack.j2 k n A n O = some (fin n A O) := by
  obtain ⟨k, rfl⟩ := rounds_succ hk
  simp only [spec_AddAttack.j2]
  rw [spec_IsGraph_eq n A (by omega) k (by omega), Option.bind_some]
  unfold fin
  by_cases h1 : isG n A = true
  · rw [if_pos h1, spec_IsGraph_eq n O hO k (by omega), Option.bind_some]
    by_cases h2 : isG n O = true
    · rw [if_pos h2, if_pos (by simp [h1, h2])]
    · rw [if_neg h2, if_neg (by simp [h2]), l4Copy_eq n A (by omega) hr k (by omega), Option.bind_some]
  · rw [if_neg h1, if_neg (by simp [h1]), l4Copy_eq n A (by omega) hr k (by omega), Option.bind_some]
theorem add_done (n : Int) (A : List (List Int)) (a b : Int) (hA : A.length ≤ 1000000) (hg : isG n A = true) : ∀ (d k i : Nat) (O : List (List Int)), i + d = A.length → O.length ≤ i + 1 → 2 * d + 4 * A.length + 50 < k → spec_AddAttack.l0 k a b true i n A n O = some (fin n A (O ++ A.drop i)) := by
  have hr2 := (isG_ok hg).2
  intro d
  induction d with
  | zero =>
    intro k i O hd hO hk
    obtain ⟨k, rfl⟩ := rounds_succ hk
    obtain ⟨k, rfl⟩ := rounds_succ (show 0 < k by omega)
    simp only [spec_AddAttack.l0, spec_AddAttack.j1]; rw [if_neg (by omega), if_neg (by simp), if_pos trivial, List.drop_eq_nil_of_le (by omega), List.append_nil]
    exact add_j2 n A O hA (fun r h => by have := (hr2 r h).1; omega) (by omega) k (by omega)
  | succ d ih =>
    intro k i O hd hO hk
    obtain ⟨k, rfl⟩ := rounds_succ hk
    obtain ⟨k, rfl⟩ := rounds_succ (show 0 < k by omega)
    have hm := (hr2 _ (rdL_mem A i (by omega))).1
    simp only [spec_AddAttack.l0]; rw [if_pos (by omega), spec_IsGraph_eq n A (by omega) (k + 1) (by omega), Option.bind_some, hg]
    simp only [spec_AddAttack.j1]; rw [if_pos trivial, if_pos (by omega), if_pos (by omega), if_pos trivial, Option.bind_some, if_pos (by simp only [List.length_nil]; omega), if_pos (by omega), wrs (by omega), List.nil_append, ih k (i + 1) _ (by omega) (by rw [List.length_append, List.length_singleton]; omega) (by omega), rdL_drop A i (by omega), List.append_assoc]
    rfl
theorem add_go (n : Int) (A : List (List Int)) (a b : Int) (hA : A.length ≤ 1000000) (hg : isG n A = true) : ∀ (d k i : Nat), i + d = A.length → 2 * d + 4 * A.length + 60 < k → spec_AddAttack.l0 k a b false i n A n (A.take i) = some (fin n A (A.take i ++ ins a b (A.drop i))) := by
  have hr2 := (isG_ok hg).2
  intro d
  induction d with
  | zero =>
    intro k i hd hk
    obtain ⟨k, rfl⟩ := rounds_succ hk
    obtain ⟨k, rfl⟩ := rounds_succ (show 0 < k by omega)
    have hl : (A.take i).length = i := by rw [List.length_take]; omega
    simp only [spec_AddAttack.l0, spec_AddAttack.j1]; rw [if_neg (by omega), if_neg (by simp), if_neg (by simp), if_pos (by omega), List.drop_eq_nil_of_le (by omega)]
    exact add_j2 n A _ hA (fun r h => by have := (hr2 r h).1; omega) (by rw [List.length_append, List.length_singleton]; omega) k (by rw [List.length_append, List.length_singleton]; omega)
  | succ d ih =>
    intro k i hd hk
    obtain ⟨k, rfl⟩ := rounds_succ hk
    obtain ⟨k, rfl⟩ := rounds_succ (show 0 < k by omega)
    have hl : (A.take i).length = i := by rw [List.length_take]; omega
    have hm := (hr2 _ (rdL_mem A i (by omega))).1
    have hput : spec_AddAttack.l0 k a b true ((i + 1 : Nat) : Int) n A n (A.take i ++ [([a, b] : List Int)] ++ [rd_L1 A (i : Int)]) = some (fin n A (A.take i ++ ([a, b] :: A.drop i))) := by
      rw [add_done n A a b hA hg d k (i + 1) _ (by omega) (by simp only [List.length_append, List.length_singleton]; omega) (by omega), rdL_drop A i (by omega)]
      simp [List.append_assoc]
    have hgo := ih k (i + 1) (by omega) (by omega)
    rw [← take_snoc A i (by omega)] at hgo
    simp only [spec_AddAttack.l0]; rw [if_pos (by omega), spec_IsGraph_eq n A (by omega) (k + 1) (by omega), Option.bind_some, hg]
    rw [rdL_drop A i (by omega)] at hput ⊢
    simp only [spec_AddAttack.j1]
    generalize rd_L1 A (i : Int) = x at hm hput hgo ⊢
    rw [if_pos trivial, if_pos (by omega), if_pos (by omega), if_neg (by simp), if_pos (by omega)]
    simp only [Option.bind_some, List.nil_append]
    unfold ins
    by_cases h1 : rd x 0 > a
    · rw [if_pos h1, if_pos (by omega), if_pos (by simp only [List.length_nil]; omega), if_pos (by simp only [List.length_append, List.length_singleton]; omega), wrs (by omega), if_pos (.inl h1)]
      exact hput
    · rw [if_neg h1]
      by_cases h2 : rd x 0 = a
      · rw [if_pos h2, if_pos (by omega)]
        by_cases h3 : rd x 1 > b
        · rw [if_pos h3, if_pos (by omega), if_pos (by simp only [List.length_nil]; omega), if_pos (by simp only [List.length_append, List.length_singleton]; omega), wrs (by omega), if_pos (.inr ⟨h2, h3⟩)]
          exact hput
        · rw [if_neg h3, if_pos (by simp only [List.length_nil]; omega), if_pos (by omega), wrs (by omega), if_neg (by omega), hgo]
          simp [List.append_assoc]
      · rw [if_neg h2, if_pos (by simp only [List.length_nil]; omega), if_pos (by omega), wrs (by omega), if_neg (by omega), hgo]
        simp [List.append_assoc]
theorem spec_AddAttack_eq (n : Int) (A : List (List Int)) (a b : Int) (hA : A.length ≤ 1000000) (hr : ∀ r ∈ A, r.length ≤ 1048576) (k : Nat) (hk : 6 * A.length + 70 < k) : spec_AddAttack.f k n A a b = some (fin n A (ins a b A)) := by
  unfold spec_AddAttack.f
  by_cases hg : isG n A = true
  · have := add_go n A a b hA hg A.length k 0 (by omega) (by omega)
    simpa using this
  · have hf : isG n A = false := by simpa using hg
    obtain ⟨k, rfl⟩ := rounds_succ hk
    obtain ⟨k, rfl⟩ := rounds_succ (show 0 < k by omega)
    have hj := add_j2 n A ([] ++ [[a, b]]) hA hr (by simp) k (by simp; omega)
    have e : fin n A ([] ++ [[a, b]]) = fin n A (ins a b A) := by unfold fin; rw [hf]; rfl
    rw [e] at hj
    have hj1 : spec_AddAttack.j1 (k + 1) a b false 0 false n A n [] = some (fin n A (ins a b A)) := by
      simp only [spec_AddAttack.j1]
      rw [if_neg (by simp), if_neg (by simp), if_pos (by simp)]
      exact hj
    simp only [spec_AddAttack.l0]
    rw [spec_IsGraph_eq n A (by omega) (k + 1) (by omega), Option.bind_some, hf]
    split <;> exact hj1
theorem tmod_nn (a b : Int) (ha : 0 ≤ a) : a.tmod b = a % b := by rw [Int.tmod_eq_emod, if_pos (.inl ha)]; omega
theorem and255 (y : Int) : 0 ≤ Go.bits .and .i64 y 255 ∧ Go.bits .and .i64 y 255 ≤ 255 := by
  have h : ((BitVec.ofInt 64 y &&& BitVec.ofInt 64 255).toNat) ≤ 255 := by
    rw [BitVec.toNat_and]
    exact Nat.and_le_right
  have e : Go.bits .and .i64 y 255 = IntKind.i64.wrap ((BitVec.ofInt 64 y &&& BitVec.ofInt 64 255).toNat : Int) := rfl
  rw [e]
  generalize (BitVec.ofInt 64 y &&& BitVec.ofInt 64 255).toNat = m at h
  rw [IntKind.wrap_i64]; omega
theorem l1New_l (b : List Int) (_hb : b.length ≤ 1048576) : ∀ (d k i : Nat) (h : Int), i + d = b.length → d < k → ∃ h', spec_l1New.l0 k b h i = some (b, 0, h') := by
  intro d
  induction d with
  | zero =>
    intro k i h hd hk
    obtain ⟨k, rfl⟩ := rounds_succ hk
    simp only [spec_l1New.l0]; rw [if_neg (by omega)]
    exact ⟨h, rfl⟩
  | succ d ih =>
    intro k i h hd hk
    obtain ⟨k, rfl⟩ := rounds_succ hk
    simp only [spec_l1New.l0]; rw [if_pos (by omega)]
    by_cases h4 : (i : Int) < 4000
    · rw [if_pos h4, if_pos (by omega), wrs (by omega)]
      exact ih k (i + 1) _ (by omega) (by omega)
    · rw [if_neg h4]
      exact ⟨h, rfl⟩
theorem l1New_eq (b : List Int) (hb : b.length ≤ 1048576) (k : Nat) (hk : b.length < k) : ∃ h', spec_l1New.f k b = some (b, 0, h') :=
  l1New_l b hb b.length k 0 _ (by omega) hk
def Cur (b : List Int) (i : Int) : Prop := 0 ≤ i ∧ i ≤ (b.length : Int)
theorem l1Byte_eq (b : List Int) (hb : b.length ≤ 1048576) (i h : Int) (hc : Cur b i) : ∃ x i' h', spec_l1Byte.f b i h = some (x, i', h') ∧ 0 ≤ x ∧ x ≤ 255 ∧ Cur b i' := by
  unfold Cur at *
  unfold spec_l1Byte.f
  by_cases h1 : i < (b.length : Int)
  · rw [if_pos h1, if_pos hc.1]
    exact ⟨_, _, _, rfl, (and255 _).1, (and255 _).2, by rw [wr (by omega) (by omega)]; omega⟩
  · rw [if_neg h1]
    exact ⟨_, _, _, rfl, (and255 _).1, (and255 _).2, hc⟩
theorem l1Below_eq (b : List Int) (hb : b.length ≤ 1048576) (i h : Int) (hc : Cur b i) (n : Int) : ∃ x i' h', spec_l1Below.f b i h n = some (x, i', h') ∧ 0 ≤ x ∧ (x < n ∨ (n ≤ 0 ∧ x = 0)) ∧ Cur b i' := by
  unfold spec_l1Below.f
  by_cases h0 : n ≤ 0
  · rw [if_pos h0]; exact ⟨0, i, h, rfl, by omega, .inr ⟨h0, rfl⟩, hc⟩
  · rw [if_neg h0]
    by_cases h1 : n ≤ 256
    · obtain ⟨x, i1, k1, e, g1, g2, g3⟩ := l1Byte_eq b hb i h hc
      rw [if_pos h1, e, Option.bind_some, if_neg (by omega)]
      simp only []
      rw [tmod_nn _ _ g1]
      exact ⟨_, i1, k1, rfl, Int.emod_nonneg _ (by omega), .inl (Int.emod_lt_of_pos _ (by omega)), g3⟩
    · obtain ⟨x, i1, k1, e, g1, g2, g3⟩ := l1Byte_eq b hb i h hc
      obtain ⟨y, i2, k2, e2, p1, p2, p3⟩ := l1Byte_eq b hb i1 k1 g3
      obtain ⟨z, i3, k3, e3, q1, q2, q3⟩ := l1Byte_eq b hb i2 k2 p3
      rw [if_neg h1, e, Option.bind_some]
      simp only []
      rw [e2, Option.bind_some]
      simp only []
      rw [e3, Option.bind_some, if_neg (by omega)]
      simp only []
      rw [wr (i := x * 65536) (by omega) (by omega), wr (i := y * 256) (by omega) (by omega), wr (i := x * 65536 + _) (by omega) (by omega), wr (by omega) (by omega), tmod_nn _ _ (by omega)]
      exact ⟨_, i3, k3, rfl, Int.emod_nonneg _ (by omega), .inl (Int.emod_lt_of_pos _ (by omega)), q3⟩
theorem l1Int_eq (b : List Int) (hb : b.length ≤ 1048576) (c h : Int) (hc : Cur b c) (l : List Int) (h0 : 0 < l.length) : ∃ x c' h', spec_l1Int.f b c h l = some (x, c', h') ∧ x ∈ l ∧ Cur b c' := by
  unfold spec_l1Int.f
  obtain ⟨x, i1, k1, e, g1, g2, g3⟩ := l1Below_eq b hb c h hc (l.length : Int)
  rw [e, Option.bind_some]
  simp only []
  rw [if_pos g1, if_pos (by omega)]
  refine ⟨_, i1, k1, rfl, ?_, g3⟩
  have := rd_nat l x.toNat (by omega)
  rw [show ((x.toNat : Nat) : Int) = x by omega] at this
  rw [this]; exact List.getElem_mem _
theorem l1Once_eq (b : List Int) (hb : b.length ≤ 1048576) (c h : Int) (hc : Cur b c) (n : Int) : ∃ (x : Bool) (c' h' : Int), spec_l1Once.f b c h n = some (x, c', h') ∧ Cur b c' := by
  unfold spec_l1Once.f
  obtain ⟨x, i1, k1, e, g1, g2, g3⟩ := l1Below_eq b hb c h hc n
  rw [e, Option.bind_some]
  exact ⟨_, i1, k1, rfl, g3⟩
def Sm (m : Nat) (A : List (List Int)) : Prop := A.length ≤ m ∧ ∀ r ∈ A, r.length ≤ 2
theorem fin_sm {n : Int} {A : List (List Int)} {a b : Int} {m : Nat} (h : Sm m A) : ∃ A' ok, fin n A (ins a b A) = (n, A', ok) ∧ Sm (m + 1) A' := by
  unfold fin
  split
  · refine ⟨_, _, rfl, by rw [ins_len]; have := h.1; omega, fun r hr => ?_⟩
    rcases ins_mem a b A r hr with e | e
    · rw [e]; simp
    · exact h.2 r e
  · exact ⟨_, _, rfl, by have := h.1; omega, h.2⟩
theorem l4Draw_l (b : List Int) (hb : b.length ≤ 1048576) (n : Int) : ∀ (d k : Nat) (c h : Int) (A : List (List Int)) (m : Nat), Cur b c → Sm m A → m + d ≤ 1000 → d + 6100 < k → ∃ A' c' h', spec_l4Draw.l0 k d b c h n A = some (n, A', c', h') ∧ Sm (m + d) A' ∧ Cur b c' := by
  intro d
  induction d with
  | zero =>
    intro k c h A m hc hs hm hk
    obtain ⟨k, rfl⟩ := rounds_succ hk
    simp only [spec_l4Draw.l0]; rw [if_neg (by omega)]
    exact ⟨A, c, h, rfl, hs, hc⟩
  | succ d ih =>
    intro k c h A m hc hs hm hk
    obtain ⟨k, rfl⟩ := rounds_succ hk
    obtain ⟨x, i1, k1, e1, _, _, g3⟩ := l1Below_eq b hb c h hc n
    obtain ⟨y, i2, k2, e2, _, _, p3⟩ := l1Below_eq b hb i1 k1 g3 n
    have h1 := hs.1
    obtain ⟨A', ok, e3, hs'⟩ := fin_sm (n := n) (a := x) (b := y) hs
    simp only [spec_l4Draw.l0]; rw [if_pos (by omega), e1, Option.bind_some]; simp only []
    rw [e2, Option.bind_some]; simp only []
    rw [spec_AddAttack_eq n A x y (by omega) (fun r hr => by have := hs.2 r hr; omega) k (by omega), Option.bind_some, e3]; simp only []
    rw [show wrap64 (((d + 1 : Nat) : Int) - 1) = (d : Int) by rw [wr (by omega) (by omega)]; omega]
    obtain ⟨A2, c2, h2, q1, q2, q3⟩ := ih k i2 k2 A' (m + 1) p3 hs' (by omega) (by omega)
    exact ⟨A2, c2, h2, q1, by rw [show m + (d + 1) = m + 1 + d by omega]; exact q2, q3⟩
theorem l4Draw_eq (b : List Int) (hb : b.length ≤ 1048576) (c h : Int) (hc : Cur b c) (k : Nat) (hk : 7000 < k) : ∃ n A c' h', spec_l4Draw.f k b c h = some (n, A, c', h') ∧ (1 ≤ n ∧ n ≤ 6) ∧ Sm 10 A ∧ Cur b c' := by
  unfold spec_l4Draw.f
  obtain ⟨x, i1, k1, e1, g1, g2, g3⟩ := l1Below_eq b hb c h hc 6
  rw [e1, Option.bind_some]; simp only []
  obtain ⟨y, i2, k2, e2, p1, p2, p3⟩ := l1Below_eq b hb i1 k1 g3 10
  rw [e2, Option.bind_some]; simp only []
  rw [wr (i := 1 + x) (by omega) (by omega)]
  obtain ⟨A, c', h', e3, q2, q3⟩ := l4Draw_l b hb (1 + x) y.toNat k i2 k2 [] 0 p3 ⟨by simp, fun r hr => by cases hr⟩ (by omega) (by omega)
  rw [show ((y.toNat : Nat) : Int) = y by omega] at e3
  exact ⟨1 + x, A, c', h', e3, by omega, ⟨by have := q2.1; omega, q2.2⟩, q3⟩
theorem l4Raw_eq (b : List Int) (hb : b.length ≤ 1048576) (c h : Int) (hc : Cur b c) : ∃ x c' h', spec_l4Raw.f b c h = some (x, c', h') ∧ Cur b c' := by
  unfold spec_l4Raw.f
  obtain ⟨x, i1, k1, e1, _, g3⟩ := l1Int_eq b hb c h hc [(-1), 0, 5, 10, 11, 9223372036854775807, (-9223372036854775808)] (by simp)
  rw [e1, Option.bind_some]
  exact ⟨x, i1, k1, rfl, g3⟩
theorem l4Any_eq (b : List Int) (hb : b.length ≤ 1048576) (c h : Int) (hc : Cur b c) (k : Nat) (hk : 7000 < k) : ∃ n A c' h', spec_l4Any.f k b c h = some (n, A, c', h') ∧ Sm 11 A ∧ Cur b c' := by
  unfold spec_l4Any.f
  obtain ⟨n, A, i0, k0, e0, _, hs, g0⟩ := l4Draw_eq b hb c h hc k hk
  rw [e0, Option.bind_some]; simp only []
  obtain ⟨x, i1, k1, e1, _, _, g1⟩ := l1Below_eq b hb i0 k0 g0 14
  rw [e1, Option.bind_some]; simp only []
  have hl := hs.1
  by_cases h0 : x = 0
  · rw [if_pos h0]
    obtain ⟨r, i2, k2, e2, g2⟩ := l4Raw_eq b hb i1 k1 g1
    rw [e2, Option.bind_some]
    exact ⟨r, A, i2, k2, rfl, ⟨by omega, hs.2⟩, g2⟩
  · rw [if_neg h0]
    by_cases h1 : x = 1
    · rw [if_pos h1, if_pos (by omega)]
      refine ⟨n, _, i1, k1, rfl, ⟨by rw [List.length_append, List.length_singleton]; omega, fun r hr => ?_⟩, g1⟩
      rcases List.mem_append.1 hr with e | e
      · exact hs.2 r e
      · rw [List.mem_singleton.1 e]; simp
    · rw [if_neg h1]
      by_cases h2 : x = 2
      · rw [if_pos h2]
        obtain ⟨u, i2, k2, e2, _, _, g2⟩ := l1Below_eq b hb i1 k1 g1 7
        rw [e2, Option.bind_some]; simp only []
        obtain ⟨v, i3, k3, e3, _, _, g3⟩ := l1Below_eq b hb i2 k2 g2 7
        rw [e3, Option.bind_some, if_pos (by omega)]
        refine ⟨n, _, i3, k3, rfl, ⟨by rw [List.length_append, List.length_singleton]; omega, fun r hr => ?_⟩, g3⟩
        rcases List.mem_append.1 hr with e | e
        · exact hs.2 r e
        · rw [List.mem_singleton.1 e]; simp
      · rw [if_neg h2]
        exact ⟨n, A, i1, k1, rfl, ⟨by omega, hs.2⟩, g1⟩
theorem l4Set_l (b : List Int) (hb : b.length ≤ 1048576) (n : Int) (A : List (List Int)) : ∀ (d k i : Nat) (S : List Int) (c h : Int), i + d = 12 → S.length ≤ i → Cur b c → d < k → ∃ S' c' h', spec_l4Set.l0 k S i b c h n A = some (S', c', h') ∧ S'.length ≤ 12 ∧ Cur b c' := by
  have hmin : ∃ t, spec_Min.f 12 n = some t ∧ t ≤ 12 := by
    unfold spec_Min.f
    split
    · exact ⟨_, rfl, by omega⟩
    · exact ⟨_, rfl, by omega⟩
  obtain ⟨t, ht, ht2⟩ := hmin
  intro d
  induction d with
  | zero =>
    intro k i S c h hd hS hc hk
    obtain ⟨k, rfl⟩ := rounds_succ hk
    simp only [spec_l4Set.l0]; rw [ht, Option.bind_some, if_neg (by omega)]
    exact ⟨S, c, h, rfl, by omega, hc⟩
  | succ d ih =>
    intro k i S c h hd hS hc hk
    obtain ⟨k, rfl⟩ := rounds_succ hk
    simp only [spec_l4Set.l0]; rw [ht, Option.bind_some]
    by_cases hi : (i : Int) < t
    · rw [if_pos hi]
      obtain ⟨x, i1, k1, e1, g3⟩ := l1Once_eq b hb c h hc 3
      rw [e1, Option.bind_some]; simp only []
      rw [wrs (by omega)]
      cases x with
      | true =>
        rw [if_pos rfl, if_pos (by omega)]
        exact ih k (i + 1) _ i1 k1 (by omega) (by rw [List.length_append, List.length_singleton]; omega) g3 (by omega)
      | false =>
        rw [if_neg (by simp)]
        exact ih k (i + 1) _ i1 k1 (by omega) (by omega) g3 (by omega)
    · rw [if_neg hi]
      exact ⟨S, c, h, rfl, by omega, hc⟩
theorem dHit (b : List Int) (hb : b.length ≤ 1048576) (k : Nat) (hk : b.length + 7100 < k) : ∃ n A S, spec_DrawHitBy.f k b = some (n, A, S) ∧ Sm 11 A ∧ S.length ≤ 12 := by
  unfold spec_DrawHitBy.f
  obtain ⟨h0, e0⟩ := l1New_eq b hb k (by omega)
  have c0 : Cur b 0 := by unfold Cur; omega
  rw [e0, Option.bind_some]; simp only []
  obtain ⟨n, A, i1, k1, e1, hs, g1⟩ := l4Any_eq b hb 0 h0 c0 k (by omega)
  rw [e1, Option.bind_some]; simp only []
  unfold spec_l4Set.f
  obtain ⟨S, i2, k2, e2, hS, g2⟩ := l4Set_l b hb n A 12 k 0 [] i1 k1 (by omega) (by simp) g1 (by omega)
  rw [show (0 : Int) = ((0 : Nat) : Int) from rfl, e2, Option.bind_some]
  exact ⟨n, A, S, rfl, hs, hS⟩
theorem impl_InRange_eq (a b c : Int) : impl_InRange.f a b c = some (decide (b ≤ a ∧ a ≤ c)) := by
  unfold impl_InRange.f; by_cases h : b ≤ a <;> simp [h]
theorem cmpi_eq (a b : Int) : cmp_Compare_int.f a b = some (if a < b then -1 else if a > b then 1 else 0) := by
  unfold cmp_Compare_int.f cmp_isNaN_int.f
  simp only [Option.bind_some, bne_self_eq_false, Bool.false_eq_true, if_false]
  split
  · rfl
  · split <;> rfl
theorem cmp2_eq (p q : List Int) (hp : p.length = 2) (hq : q.length = 2) (k : Nat) (hk : 3 < k) : ∃ t, slices_Compare_int_int.f k p q = some t ∧ (t ≥ 0 ↔ lexlt p q = false) := by
  obtain ⟨k, rfl⟩ : ∃ m, k = m + 3 := ⟨k - 3, by omega⟩
  have l1 : lexlt p q = decide (rd p 0 < rd q 0 ∨ (rd p 0 = rd q 0 ∧ rd p 1 < rd q 1)) := rfl
  rw [l1]
  unfold slices_Compare_int_int.f
  rw [slices_Compare_int_int.l0, if_pos (by omega), if_pos (by omega), if_pos (by omega), if_neg (by omega), if_pos (by omega), cmpi_eq, Option.bind_some]
  by_cases h1 : rd p 0 < rd q 0
  · rw [if_pos h1, if_neg (by omega)]; exact ⟨-1, rfl, by simp [h1]⟩
  · rw [if_neg h1]
    by_cases h2 : rd p 0 > rd q 0
    · rw [if_pos h2, if_neg (by omega)]; exact ⟨1, rfl, by simp; omega⟩
    · rw [if_neg h2, if_pos rfl, show wrap64 ((0 : Int) + 1) = 1 from wr (by omega) (by omega)]
      rw [slices_Compare_int_int.l0, if_pos (by omega), if_pos (by omega), if_pos (by omega), if_neg (by omega), if_pos (by omega), cmpi_eq, Option.bind_some]
      by_cases h3 : rd p 1 < rd q 1
      · rw [if_pos h3, if_neg (by omega)]; exact ⟨-1, rfl, by simp [h3]; omega⟩
      · rw [if_neg h3]
        by_cases h4 : rd p 1 > rd q 1
        · rw [if_pos h4, if_neg (by omega)]; exact ⟨1, rfl, by simp; omega⟩
        · rw [if_neg h4, if_pos rfl, show wrap64 ((1 : Int) + 1) = 2 from wr (by omega) (by omega)]
          rw [slices_Compare_int_int.l0, if_neg (by omega), if_neg (by omega)]
          exact ⟨0, rfl, by simp; omega⟩
theorem impl_isClaim_eq (n : Int) (A : List (List Int)) (c : Int) (h : 0 ≤ n ∧ n ≤ 10) : impl_isClaim.f n A c = some (decide (0 ≤ c ∧ c ≤ n - 1)) := by
  unfold impl_isClaim.f
  rw [wr (i := n - 1) (by omega) (by omega), impl_InRange_eq, Option.bind_some]
theorem impl_IsGraph_l (n : Int) (A : List (List Int)) (hA : A.length ≤ 1048576) (hn : 0 ≤ n ∧ n ≤ 10) : ∀ (d k i : Nat), i + d = A.length → (∀ j, j < i → (rd_L1 A (j : Int)).length = 2) → d + 4 < k →
    impl_IsGraph.l0 k A (A.length : Int) i n A = some (gl (n - 1) (prevOf A i) (A.drop i)) := by
  intro d
  induction d with
  | zero =>
    intro k i hd hp hk
    obtain ⟨k, rfl⟩ := rounds_succ hk
    simp only [impl_IsGraph.l0]; rw [if_neg (by omega), List.drop_eq_nil_of_le (by omega)]
    simp [gl]
  | succ d ih =>
    intro k i hd hp hk
    obtain ⟨k, rfl⟩ := rounds_succ hk
    simp only [impl_IsGraph.l0]; rw [if_pos (by omega), if_pos (by omega), if_pos (by omega), rdL_drop A i (by omega)]
    simp only [gl]
    generalize hq : rd_L1 A (i : Int) = p
    by_cases h2 : p.length = 2
    · rw [if_pos (by omega), if_pos (by omega), impl_isClaim_eq n A _ hn, Option.bind_some]
      by_cases h3 : 0 ≤ rd p 0 ∧ rd p 0 ≤ n - 1
      · rw [if_pos (by simp only [h3, and_self, decide_true]), if_pos (by omega), impl_isClaim_eq n A _ hn, Option.bind_some]
        by_cases h4 : 0 ≤ rd p 1 ∧ rd p 1 ≤ n - 1
        · have hok : okE (n - 1) p = true := by unfold okE; simp only [h2, h3, h4, and_self, decide_true]
          have hnext := ih k (i + 1) (by omega) (fun j hj => by
            by_cases e : j = i
            · rw [e, hq]; exact h2
            · exact hp j (by omega)) (by omega)
          rw [prevOf_succ, hq] at hnext
          rw [if_pos (by simp only [h4, and_self, decide_true])]
          simp only [hok, Bool.true_and]
          by_cases hi : i = 0
          · subst hi
            rw [if_neg (by omega)]
            rw [show wrap64 (((0 : Nat) : Int) + 1) = ((0 + 1 : Nat) : Int) from wrs (by omega), hnext]
            simp [prevOf]
          · have e1 : prevOf A i = some (rd_L1 A ((i - 1 : Nat) : Int)) := by unfold prevOf; rw [if_neg hi]
            have hl := hp (i - 1) (by omega)
            rw [e1]
            rw [if_pos (by omega), show wrap64 ((i : Int) - 1) = ((i - 1 : Nat) : Int) by rw [wr (by omega) (by omega)]; omega]
            generalize rd_L1 A ((i - 1 : Nat) : Int) = q at hl ⊢
            rw [if_pos (by omega), if_pos (by omega)]
            obtain ⟨t, ht, htt⟩ := cmp2_eq q p hl h2 k (by omega)
            rw [ht, Option.bind_some, wrs (by omega), hnext]
            by_cases h5 : t ≥ 0
            · rw [if_pos h5]; simp [htt.1 h5]
            · rw [if_neg h5]
              have : lexlt q p = true := by
                cases e : lexlt q p with
                | true => rfl
                | false => exact absurd (htt.2 e) h5
              simp [this]
        · have hok : okE (n - 1) p = false := by unfold okE; simp only [decide_eq_false_iff_not]; omega
          rw [if_neg (by simp only [decide_eq_true_eq]; omega)]; simp [hok]
      · have hok : okE (n - 1) p = false := by unfold okE; simp only [decide_eq_false_iff_not]; omega
        rw [if_neg (by simp only [decide_eq_true_eq]; omega)]; simp [hok]
    · have hok : okE (n - 1) p = false := by unfold okE; simp [h2]
      rw [if_neg (by omega)]; simp [hok]
theorem impl_IsGraph_eq (n : Int) (A : List (List Int)) (hA : A.length ≤ 1048576) (k : Nat) (hk : A.length + 4 < k) : impl_IsGraph.f k n A = some (isG n A) := by
  unfold impl_IsGraph.f isG
  rw [impl_InRange_eq, Option.bind_some]
  by_cases h : 0 ≤ n ∧ n ≤ 10
  · rw [if_pos (by simp [h])]
    have := impl_IsGraph_l n A hA h A.length k 0 (by omega) (fun j hj => by omega) hk
    rw [show ((0 : Nat) : Int) = 0 from rfl] at this
    rw [this]
    simp [h, prevOf]
  · rw [if_neg (by simp only [decide_eq_true_eq]; exact h)]; simp [h]
def vicA (A : List (List Int)) (c : Int) : List Int := (A.filter fun p => rd p 0 == c).map fun p => rd p 1
def attA (A : List (List Int)) (c : Int) : List Int := (A.filter fun p => rd p 1 == c).map fun p => rd p 0
def vic (n : Int) (A : List (List Int)) (c : Int) : List Int := if isG n A = true then vicA A c else []
def att (n : Int) (A : List (List Int)) (c : Int) : List Int := if isG n A = true then attA A c else []
theorem vicA_len (A : List (List Int)) (c : Int) : (vicA A c).length ≤ A.length := by unfold vicA; rw [List.length_map]; exact List.length_filter_le _ _
theorem attA_len (A : List (List Int)) (c : Int) : (attA A c).length ≤ A.length := by unfold attA; rw [List.length_map]; exact List.length_filter_le _ _
theorem vic_len (n : Int) (A : List (List Int)) (c : Int) : (vic n A c).length ≤ A.length := by unfold vic; split; exact vicA_len A c; simp
theorem att_len (n : Int) (A : List (List Int)) (c : Int) : (att n A c).length ≤ A.length := by unfold att; split; exact attA_len A c; simp
theorem isG_len2 {n : Int} {A : List (List Int)} (h : isG n A = true) (i : Nat) (hi : i < A.length) : (rd_L1 A (i : Int)).length = 2 := ((isG_ok h).2 _ (rdL_mem A i hi)).1
theorem impl_AttackersOf_l (n : Int) (A : List (List Int)) (c : Int) (hA : A.length ≤ 1048576) (hg : isG n A = true) : ∀ (d k i : Nat) (o : List Int), i + d = A.length → o.length ≤ i → d < k → impl_AttackersOf.l0 k c o A (A.length : Int) i = some (o ++ attA (A.drop i) c) := by
  intro d
  induction d with
  | zero =>
    intro k i o hd ho hk
    obtain ⟨k, rfl⟩ := rounds_succ hk
    simp only [impl_AttackersOf.l0]; rw [if_neg (by omega), List.drop_eq_nil_of_le (by omega)]; simp [attA]
  | succ d ih =>
    intro k i o hd ho hk
    obtain ⟨k, rfl⟩ := rounds_succ hk
    have h2 := isG_len2 hg i (by omega)
    simp only [impl_AttackersOf.l0]; rw [if_pos (by omega), if_pos (by omega), if_pos (by omega), if_pos (by omega), wrs (by omega), rdL_drop A i (by omega)]
    generalize rd_L1 A (i : Int) = p at h2 ⊢
    by_cases h : rd p 1 = c
    · rw [if_pos h, if_pos (by omega), if_pos (by omega), ih k (i + 1) _ (by omega) (by rw [List.length_append, List.length_singleton]; omega) (by omega)]
      simp [attA, h]
    · rw [if_neg h, ih k (i + 1) _ (by omega) (by omega) (by omega)]
      simp [attA, h]
theorem impl_AttackersOf_eq (n : Int) (A : List (List Int)) (c : Int) (hA : A.length ≤ 1048576) (k : Nat) (hk : A.length + 4 < k) : impl_AttackersOf.f k n A c = some (att n A c) := by
  unfold impl_AttackersOf.f att
  rw [Option.bind_some, impl_IsGraph_eq n A hA k hk, Option.bind_some]
  by_cases h : isG n A = true
  · rw [if_pos h, if_pos h]
    have := impl_AttackersOf_l n A c hA h A.length k 0 [] (by omega) (by simp) (by omega)
    simpa using this
  · rw [if_neg h, if_neg h]
theorem impl_VictimsOf_l (n : Int) (A : List (List Int)) (c : Int) (hA : A.length ≤ 1048576) (hg : isG n A = true) : ∀ (d k i : Nat) (o : List Int), i + d = A.length → o.length ≤ i → d < k → impl_VictimsOf.l0 k c o A (A.length : Int) i = some (o ++ vicA (A.drop i) c) := by
  intro d
  induction d with
  | zero =>
    intro k i o hd ho hk
    obtain ⟨k, rfl⟩ := rounds_succ hk
    simp only [impl_VictimsOf.l0]; rw [if_neg (by omega), List.drop_eq_nil_of_le (by omega)]; simp [vicA]
  | succ d ih =>
    intro k i o hd ho hk
    obtain ⟨k, rfl⟩ := rounds_succ hk
    have h2 := isG_len2 hg i (by omega)
    simp only [impl_VictimsOf.l0]; rw [if_pos (by omega), if_pos (by omega), if_pos (by omega), if_pos (by omega), wrs (by omega), rdL_drop A i (by omega)]
    generalize rd_L1 A (i : Int) = p at h2 ⊢
    by_cases h : rd p 0 = c
    · rw [if_pos h, if_pos (by omega), if_pos (by omega), ih k (i + 1) _ (by omega) (by rw [List.length_append, List.length_singleton]; omega) (by omega)]
      simp [vicA, h]
    · rw [if_neg h, ih k (i + 1) _ (by omega) (by omega) (by omega)]
      simp [vicA, h]
theorem impl_VictimsOf_eq (n : Int) (A : List (List Int)) (c : Int) (hA : A.length ≤ 1048576) (k : Nat) (hk : A.length + 4 < k) : impl_VictimsOf.f k n A c = some (vic n A c) := by
  unfold impl_VictimsOf.f vic
  rw [Option.bind_some, impl_IsGraph_eq n A hA k hk, Option.bind_some]
  by_cases h : isG n A = true
  · rw [if_pos h, if_pos h]
    have := impl_VictimsOf_l n A c hA h A.length k 0 [] (by omega) (by simp) (by omega)
    simpa using this
  · rw [if_neg h, if_neg h]
def cl (n : Int) : List Int := (List.range n.toNat).map fun (i : Nat) => (i : Int)
def hitb (A : List (List Int)) (S : List Int) (k : Int) : Bool := A.any fun p => rd p 1 == k && S.contains (rd p 0)
def hit (A : List (List Int)) (n : Int) (S : List Int) : List Int := (cl n).filter (hitb A S)
theorem mem_cl (n k : Int) : k ∈ cl n ↔ 0 ≤ k ∧ k < n := by
  unfold cl; simp only [List.mem_map, List.mem_range]
  constructor
  · rintro ⟨i, hi, rfl⟩; omega
  · rintro ⟨h0, h1⟩; exact ⟨k.toNat, by omega, by omega⟩
theorem cl_length (n : Int) : (cl n).length = n.toNat := by simp [cl]
theorem cl_sorted (n : Int) : (cl n).Pairwise (· < ·) := by
  unfold cl; rw [List.pairwise_map]
  exact List.pairwise_lt_range.imp (fun h => by omega)
theorem hitb_iff (A : List (List Int)) (S : List Int) (k : Int) : hitb A S k = true ↔ ∃ p ∈ A, rd p 1 = k ∧ rd p 0 ∈ S := by
  unfold hitb; simp
def hitG (n : Int) (A : List (List Int)) (S : List Int) : List Int := if isG n A = true then hit A n S else []
theorem hit_sorted (A : List (List Int)) (n : Int) (S : List Int) : (hit A n S).Pairwise (· < ·) := (cl_sorted n).sublist List.filter_sublist
theorem hit_len (A : List (List Int)) (n : Int) (S : List Int) : (hit A n S).length ≤ n.toNat := by
  unfold hit; have := List.length_filter_le (hitb A S) (cl n); rwa [cl_length] at this
theorem hitG_len (n : Int) (A : List (List Int)) (S : List Int) : (hitG n A S).length ≤ 10 := by
  unfold hitG
  split
  · rename_i h; have := hit_len A n S; have := (isG_ok h).1; omega
  · simp
theorem mem_hit {A : List (List Int)} {n : Int} {S : List Int} (h : isG n A = true) (k : Int) : k ∈ hit A n S ↔ hitb A S k = true := by
  unfold hit
  rw [List.mem_filter, mem_cl]
  constructor
  · exact fun h => h.2
  · intro hb
    refine ⟨?_, hb⟩
    obtain ⟨p, hp, e, _⟩ := (hitb_iff A S k).1 hb
    have := ((isG_ok h).2 p hp).2.2
    omega
theorem sorted_ext {a b : List Int} (ha : a.Pairwise (· < ·)) (hb : b.Pairwise (· < ·)) (h : ∀ x, x ∈ a ↔ x ∈ b) : a = b := by
  induction a generalizing b with
  | nil =>
    cases b with
    | nil => rfl
    | cons y b => exact absurd ((h y).2 (List.mem_cons_self ..)) (by simp)
  | cons x a ih =>
    cases b with
    | nil => exact absurd ((h x).1 (List.mem_cons_self ..)) (by simp)
    | cons y b =>
      rw [List.pairwise_cons] at ha hb
      have hxy : x = y := by
        rcases List.mem_cons.1 ((h x).1 (List.mem_cons_self ..)) with e | e
        · exact e
        · rcases List.mem_cons.1 ((h y).2 (List.mem_cons_self ..)) with e' | e'
          · exact e'.symm
          · have := hb.1 x e; have := ha.1 y e'; omega
      subst hxy
      congr 1
      refine ih ha.2 hb.2 fun z => ?_
      constructor
      · intro hz
        rcases List.mem_cons.1 ((h z).1 (List.mem_cons_of_mem _ hz)) with e | e
        · subst e; exact absurd (ha.1 z hz) (by omega)
        · exact e
      · intro hz
        rcases List.mem_cons.1 ((h z).2 (List.mem_cons_of_mem _ hz)) with e | e
        · subst e; exact absurd (hb.1 z hz) (by omega)
        · exact e
theorem mono_at {l : List Int} (h : l.Pairwise (· ≤ ·)) {i j : Nat} (hij : i ≤ j) (hj : j < l.length) : l.toArray[i]! ≤ l.toArray[j]! := by
  have hi : i < l.length := by omega
  simp only [List.getElem!_toArray, List.getElem!_eq_getElem?_getD, List.getElem?_eq_getElem hi, List.getElem?_eq_getElem hj, Option.getD_some]
  rcases Nat.lt_or_ge i j with h1 | h1
  · exact List.pairwise_iff_getElem.1 h i j hi hj h1
  · have : i = j := by omega
    subst this; exact Int.le_refl _
theorem compact_at {l : List Int} (h : l.Pairwise (· ≤ ·)) : ∀ m, m ≤ l.length → (Go.Lib.compactUpTo l.toArray m).Pairwise (· < ·) ∧ (∀ x, x ∈ Go.Lib.compactUpTo l.toArray m ↔ ∃ j, j < m ∧ l.toArray[j]! = x) := by
  intro m
  induction m with
  | zero => intro _; exact ⟨by simp [Go.Lib.compactUpTo], fun x => by simp [Go.Lib.compactUpTo]⟩
  | succ m ih =>
    intro hm
    obtain ⟨h1, h2⟩ := ih (by omega)
    rw [Go.Lib.compactUpTo_succ]
    by_cases hk : Go.Lib.keeps l.toArray m = true
    · rw [if_pos hk]
      have hne : m = 0 ∨ l.toArray[m]! ≠ l.toArray[m - 1]! := by simpa [Go.Lib.keeps] using hk
      refine ⟨?_, fun x => ?_⟩
      · rw [List.pairwise_append]
        refine ⟨h1, List.pairwise_singleton _ _, fun a ha b hb => ?_⟩
        rw [List.mem_singleton] at hb
        subst hb
        obtain ⟨j, hj, rfl⟩ := (h2 a).1 ha
        have e1 := mono_at h (show j ≤ m - 1 by omega) (by omega)
        have e2 := mono_at h (show m - 1 ≤ m by omega) (by omega)
        rcases hne with h0 | h0
        · omega
        · have : l.toArray[m - 1]! ≠ l.toArray[m]! := fun e => h0 e.symm
          omega
      · rw [List.mem_append, h2, List.mem_singleton]
        constructor
        · rintro (⟨j, hj, e⟩ | e)
          · exact ⟨j, by omega, e⟩
          · exact ⟨m, by omega, e.symm⟩
        · rintro ⟨j, hj, e⟩
          by_cases hjm : j = m
          · subst hjm; exact .inr e.symm
          · exact .inl ⟨j, by omega, e⟩
    · rw [if_neg hk, List.append_nil]
      have hne : m ≠ 0 ∧ l.toArray[m]! = l.toArray[m - 1]! := by
        have : ¬ (m = 0 ∨ l.toArray[m]! ≠ l.toArray[m - 1]!) := by simpa [Go.Lib.keeps] using hk
        exact ⟨fun e => this (.inl e), Decidable.byContradiction fun e => this (.inr e)⟩
      refine ⟨h1, fun x => ?_⟩
      rw [h2]
      constructor
      · rintro ⟨j, hj, e⟩; exact ⟨j, by omega, e⟩
      · rintro ⟨j, hj, e⟩
        by_cases hjm : j = m
        · subst hjm; exact ⟨j - 1, by omega, by rw [← hne.2]; exact e⟩
        · exact ⟨j, by omega, e⟩
theorem sortedc (l : List Int) : (l.mergeSort fun x y => decide (x ≤ y)).Pairwise (· ≤ ·) := by
  have := List.pairwise_mergeSort (le := fun x y : Int => decide (x ≤ y)) (fun a b c h1 h2 => by simp at *; omega) (fun a b => by simp; omega) l
  exact this.imp (fun h => by simpa using h)
theorem compact_sorted (l : List Int) : (Go.Lib.compact (l.mergeSort fun x y => decide (x ≤ y))).Pairwise (· < ·) ∧ ∀ x, x ∈ Go.Lib.compact (l.mergeSort fun x y => decide (x ≤ y)) ↔ x ∈ l := by
  have h := compact_at (sortedc l) _ (Nat.le_refl _)
  refine ⟨h.1, fun x => ?_⟩
  unfold Go.Lib.compact
  rw [h.2, ← List.mem_mergeSort (le := fun x y => decide (x ≤ y))]
  generalize (l.mergeSort fun x y => decide (x ≤ y)) = q
  rw [List.mem_iff_getElem]
  constructor
  · rintro ⟨j, hj, e⟩
    exact ⟨j, hj, by simpa [List.getElem!_eq_getElem?_getD, List.getElem?_eq_getElem hj] using e⟩
  · rintro ⟨j, hj, e⟩
    exact ⟨j, hj, by simpa [List.getElem!_eq_getElem?_getD, List.getElem?_eq_getElem hj] using e⟩
theorem flat_len (n : Int) (A : List (List Int)) (S : List Int) : (S.flatMap (vic n A)).length ≤ S.length * A.length := by
  induction S with
  | nil => simp
  | cons s S ih =>
    rw [List.flatMap_cons, List.length_append, List.length_cons, Nat.succ_mul]
    have := vic_len n A s
    omega
theorem impl_HitBy_l (n : Int) (A : List (List Int)) (S : List Int) (hA : A.length ≤ 1048576) (hS : S.length ≤ 1048576) : ∀ (d k i : Nat) (o : List Int), i + d = S.length → o.length ≤ i * 1048576 → d + A.length + 5 < k → impl_HitBy.l0 k n A o S (S.length : Int) i = some (o ++ (S.drop i).flatMap (vic n A)) := by
  intro d
  induction d with
  | zero =>
    intro k i o hd ho hk
    obtain ⟨k, rfl⟩ := rounds_succ hk
    simp only [impl_HitBy.l0]; rw [if_neg (by omega), List.drop_eq_nil_of_le (by omega)]; simp
  | succ d ih =>
    intro k i o hd ho hk
    obtain ⟨k, rfl⟩ := rounds_succ hk
    have hv := vic_len n A (rd S (i : Int))
    simp only [impl_HitBy.l0]; rw [if_pos (by omega), if_pos (by omega), if_pos (by omega), impl_VictimsOf_eq n A _ hA k (by omega), Option.bind_some, if_pos (by omega), wrs (by omega), ih k (i + 1) _ (by omega) (by rw [List.length_append]; omega) (by omega)]
    have e : S.drop i = rd S i :: S.drop (i + 1) := by rw [rd_nat S i (by omega)]; exact List.drop_eq_getElem_cons _
    rw [e, List.flatMap_cons, List.append_assoc]
theorem impl_HitBy_eq (n : Int) (A : List (List Int)) (S : List Int) (hA : A.length ≤ 1048576) (hS : S.length ≤ 1048576) (k : Nat) (hk : S.length + A.length + 5 < k) : impl_HitBy.f k n A S = some (hitG n A S) := by
  unfold impl_HitBy.f
  have h := impl_HitBy_l n A S hA hS S.length k 0 [] (by omega) (by simp) (by omega)
  simp only [List.drop_zero, List.nil_append, Int.natCast_zero] at h
  have hl := flat_len n A S
  have hl2 : S.length * A.length ≤ 1048576 * 1048576 := Nat.mul_le_mul hS hA
  rw [h, Option.bind_some, if_pos (by omega)]
  congr 1
  unfold hitG Go.Proofs.YtelkfhlnejlheaaW.Sorts.sorted
  obtain ⟨c1, c2⟩ := compact_sorted (S.flatMap (vic n A))
  by_cases hg : isG n A = true
  · rw [if_pos hg]
    refine sorted_ext c1 (hit_sorted A n S) fun x => ?_
    rw [c2, mem_hit hg, hitb_iff, List.mem_flatMap]
    have hvv : ∀ a, vic n A a = vicA A a := fun a => by unfold vic; rw [if_pos hg]
    simp only [hvv]; unfold vicA
    constructor
    · rintro ⟨s, hs, hx⟩
      obtain ⟨p, hp, e⟩ := List.mem_map.1 hx
      obtain ⟨hp1, hp2⟩ := List.mem_filter.1 hp
      have hp2 := beq_iff_eq.1 hp2
      exact ⟨p, hp1, e, by rw [hp2]; exact hs⟩
    · rintro ⟨p, hp, e, hs⟩
      exact ⟨rd p 0, hs, List.mem_map.2 ⟨p, List.mem_filter.2 ⟨hp, by simp⟩, e⟩⟩
  · rw [if_neg hg]
    have : S.flatMap (vic n A) = [] := by
      rw [List.flatMap_eq_nil_iff]
      intro s _
      unfold vic; rw [if_neg hg]
    rw [this]
    simp [Go.Lib.compact, Go.Lib.compactUpTo]
theorem idx_l (S : List Int) (c : Int) (hS : S.length ≤ 1099511627776) : ∀ (d k i : Nat), i + d = S.length → d < k → ∃ t, slices_Index_int_int.l0 k S c (S.length : Int) i = some t ∧ (t ≥ 0 ↔ c ∈ S.drop i) := by
  intro d
  induction d with
  | zero =>
    intro k i hd hk
    obtain ⟨k, rfl⟩ := rounds_succ hk
    simp only [slices_Index_int_int.l0]; rw [if_neg (by omega), List.drop_eq_nil_of_le (by omega)]
    exact ⟨-1, rfl, by simp⟩
  | succ d ih =>
    intro k i hd hk
    obtain ⟨k, rfl⟩ := rounds_succ hk
    simp only [slices_Index_int_int.l0]; rw [if_pos (by omega), if_pos (by omega), if_pos (by omega), wrs (by omega)]
    have e : S.drop i = rd S i :: S.drop (i + 1) := by rw [rd_nat S i (by omega)]; exact List.drop_eq_getElem_cons _
    rw [e]
    by_cases h : c = rd S (i : Int)
    · rw [if_pos h]; exact ⟨i, rfl, by simp [← h]⟩
    · rw [if_neg h]
      obtain ⟨t, ht, h2⟩ := ih k (i + 1) (by omega) (by omega)
      exact ⟨t, ht, by rw [h2]; simp [h]⟩
theorem contains_eq (S : List Int) (c : Int) (hS : S.length ≤ 1099511627776) (k : Nat) (hk : S.length < k) : slices_Contains_int_int.f k S c = some (decide (c ∈ S)) := by
  obtain ⟨t, ht, h⟩ := idx_l S c hS S.length k 0 (by omega) hk
  rw [List.drop_zero] at h
  unfold slices_Contains_int_int.f slices_Index_int_int.f
  rw [show (0 : Int) = ((0 : Nat) : Int) from rfl, ht, Option.bind_some]
  simp [← h]
theorem drop_rdS (l : List Int) (i : Nat) (h : i < l.length) : l.drop i = rd l i :: l.drop (i + 1) := by rw [rd_nat l i h]; exact List.drop_eq_getElem_cons h
theorem laws_contains_l (S : List Int) (c : Int) (hS : S.length ≤ 1048576) : ∀ (d k i : Nat), i + d = S.length → d < k → laws_contains.l0 k S c i = some (decide (c ∈ S.drop i)) := by
  intro d
  induction d with
  | zero =>
    intro k i hd hk
    obtain ⟨k, rfl⟩ := rounds_succ hk
    simp only [laws_contains.l0]; rw [if_neg (by omega), List.drop_eq_nil_of_le (by omega)]; simp
  | succ d ih =>
    intro k i hd hk
    obtain ⟨k, rfl⟩ := rounds_succ hk
    simp only [laws_contains.l0]; rw [if_pos (by omega), if_pos (by omega), wrs (by omega), ih k (i + 1) (by omega) (by omega), drop_rdS S i (by omega)]
    by_cases h : rd S (i : Int) = c
    · rw [if_pos h]; simp [h]
    · rw [if_neg h]
      have : ¬ c = rd S (i : Int) := fun e => h e.symm
      simp [this]
theorem laws_contains_eq (S : List Int) (c : Int) (hS : S.length ≤ 1048576) (k : Nat) (hk : S.length < k) : laws_contains.f k S c = some (decide (c ∈ S)) := by
  have := laws_contains_l S c hS S.length k 0 (by omega) hk
  unfold laws_contains.f
  simpa using this
theorem laws_ascends_l (S : List Int) (hS : S.length ≤ 1048576) (h : S.Pairwise (· < ·)) : ∀ (d k i : Nat), 1 ≤ i → i + d = max S.length 1 → d < k → laws_ascends.l0 k S i = some true := by
  intro d
  induction d with
  | zero =>
    intro k i h1 hd hk
    obtain ⟨k, rfl⟩ := rounds_succ hk
    simp only [laws_ascends.l0]; rw [if_neg (by omega)]
  | succ d ih =>
    intro k i h1 hd hk
    obtain ⟨k, rfl⟩ := rounds_succ hk
    have hi : i < S.length := by omega
    have hlt := List.pairwise_iff_getElem.1 h (i - 1) i (by omega) hi (by omega)
    simp only [laws_ascends.l0]; rw [if_pos (by omega), wr (i := (i : Int) - 1) (by omega) (by omega), if_pos (by omega), if_pos (by omega), if_pos (by omega), show (i : Int) - 1 = ((i - 1 : Nat) : Int) by omega, rd_nat S (i - 1) (by omega), rd_nat S i hi, if_neg (by omega), wrs (by omega)]
    exact ih k (i + 1) (by omega) (by omega) (by omega)
theorem laws_ascends_yes (S : List Int) (hS : S.length ≤ 1048576) (h : S.Pairwise (· < ·)) (k : Nat) (hk : S.length + 1 < k) : laws_ascends.f k S = some true :=
  laws_ascends_l S hS h (max S.length 1 - 1) k 1 (by omega) (by omega) (by omega)
theorem memA {n : Int} {A : List (List Int)} (hg : isG n A = true) (c a : Int) : a ∈ att n A c ↔ ∃ p ∈ A, rd p 1 = c ∧ rd p 0 = a := by
  unfold att; rw [if_pos hg]; unfold attA
  simp only [List.mem_map, List.mem_filter, beq_iff_eq]
  constructor
  · rintro ⟨p, ⟨hp, e⟩, rfl⟩; exact ⟨p, hp, e, rfl⟩
  · rintro ⟨p, hp, e, rfl⟩; exact ⟨p, ⟨hp, e⟩, rfl⟩
theorem memV {n : Int} {A : List (List Int)} (hg : isG n A = true) (c b : Int) : b ∈ vic n A c ↔ ∃ p ∈ A, rd p 0 = c ∧ rd p 1 = b := by
  unfold vic; rw [if_pos hg]; unfold vicA
  simp only [List.mem_map, List.mem_filter, beq_iff_eq]
  constructor
  · rintro ⟨p, ⟨hp, e⟩, rfl⟩; exact ⟨p, hp, e, rfl⟩
  · rintro ⟨p, hp, e, rfl⟩; exact ⟨p, ⟨hp, e⟩, rfl⟩
theorem lex_iff (p q : List Int) : lexlt p q = true ↔ (rd p 0 < rd q 0 ∨ (rd p 0 = rd q 0 ∧ rd p 1 < rd q 1)) := by unfold lexlt; exact decide_eq_true_iff
theorem gl_sorted (w : Int) (R : List (List Int)) : ∀ prev, gl w prev R = true → R.Pairwise (fun p q => lexlt p q = true) ∧ ∀ q, prev = some q → ∀ p ∈ R, lexlt q p = true := by
  induction R with
  | nil => intro prev _; exact ⟨List.Pairwise.nil, fun _ _ p hp => by cases hp⟩
  | cons p R ih =>
    intro prev h
    have h2 : gl w (some p) R = true ∧ ∀ q, prev = some q → lexlt q p = true := by
      cases prev with
      | none => simp only [gl, Bool.and_eq_true] at h; exact ⟨h.2, fun q e => by cases e⟩
      | some q => simp only [gl, Bool.and_eq_true] at h; exact ⟨h.2, fun q' e => by cases e; exact h.1.2⟩
    obtain ⟨i1, i2⟩ := ih (some p) h2.1
    refine ⟨List.pairwise_cons.2 ⟨fun x hx => i2 p rfl x hx, i1⟩, fun q e x hx => ?_⟩
    rcases List.mem_cons.1 hx with rfl | hx
    · exact h2.2 q e
    · have a1 := (lex_iff _ _).1 (h2.2 q e)
      have a2 := (lex_iff _ _).1 (i2 p rfl x hx)
      exact (lex_iff _ _).2 (by omega)
theorem isG_sorted {n : Int} {A : List (List Int)} (h : isG n A = true) : A.Pairwise (fun p q => lexlt p q = true) := by
  unfold isG at h
  rw [Bool.and_eq_true] at h
  exact (gl_sorted _ A none h.2).1
theorem att_sorted (n : Int) (A : List (List Int)) (c : Int) : (att n A c).Pairwise (· < ·) := by
  unfold att
  split
  · rename_i h
    unfold attA
    rw [List.pairwise_map]
    refine ((isG_sorted h).filter _).imp_of_mem (fun {p q} hp hq hl => ?_)
    have e1 := (List.mem_filter.1 hp).2
    have e2 := (List.mem_filter.1 hq).2
    have := (lex_iff _ _).1 hl
    rw [beq_iff_eq] at e1 e2
    omega
  · exact List.Pairwise.nil
theorem vic_sorted (n : Int) (A : List (List Int)) (c : Int) : (vic n A c).Pairwise (· < ·) := by
  unfold vic
  split
  · rename_i h
    unfold vicA
    rw [List.pairwise_map]
    refine ((isG_sorted h).filter _).imp_of_mem (fun {p q} hp hq hl => ?_)
    have e1 := (List.mem_filter.1 hp).2
    have e2 := (List.mem_filter.1 hq).2
    have := (lex_iff _ _).1 hl
    rw [beq_iff_eq] at e1 e2
    omega
  · exact List.Pairwise.nil
theorem hitG_sorted (n : Int) (A : List (List Int)) (S : List Int) : (hitG n A S).Pairwise (· < ·) := by
  unfold hitG
  split
  · exact hit_sorted A n S
  · exact List.Pairwise.nil
theorem doesAtt_eq (n : Int) (A : List (List Int)) (a b : Int) (hA : A.length ≤ 1048576) (k : Nat) (hk : A.length + 4 < k) : impl_DoesAttack.f k n A a b = some (decide (b ∈ vic n A a)) := by
  have := vic_len n A a
  unfold impl_DoesAttack.f
  rw [impl_VictimsOf_eq n A a hA k hk, Option.bind_some, contains_eq _ b (by omega) k (by omega), Option.bind_some]
theorem clone_l (n : Int) (A : List (List Int)) (hA : A.length ≤ 1048576) (hr : ∀ r ∈ A, r.length ≤ 1048576) : ∀ (d k i : Nat), i + d = A.length → d < k → impl_cloneGraph.l0 k A (A.length : Int) i n (A.take i) = some (n, A) := by
  intro d
  induction d with
  | zero =>
    intro k i hd hk
    obtain ⟨k, rfl⟩ := rounds_succ hk
    simp only [impl_cloneGraph.l0]; rw [if_neg (by omega), List.take_of_length_le (by omega)]
  | succ d ih =>
    intro k i hd hk
    obtain ⟨k, rfl⟩ := rounds_succ hk
    have hm := hr _ (rdL_mem A i (by omega))
    simp only [impl_cloneGraph.l0]; rw [if_pos (by omega), if_pos (by omega), if_pos (by omega)]
    unfold slices_Clone_int_int.f
    rw [if_pos (by omega), Option.bind_some, if_pos (by rw [List.length_take]; omega), wrs (by omega), take_snoc A i (by omega)]
    exact ih k (i + 1) (by omega) (by omega)
theorem clone_eq (n : Int) (A : List (List Int)) (hA : A.length ≤ 1048576) (hr : ∀ r ∈ A, r.length ≤ 1048576) (k : Nat) (hk : A.length < k) : impl_cloneGraph.f k n A = some (n, A) :=
  clone_l n A hA hr A.length k 0 (by omega) hk
theorem cmp_l (p q : List Int) (hp : p.length ≤ 1048576) : ∀ (d k i : Nat), i + d = p.length → d < k → ∃ t, slices_Compare_int_int.l0 k p q p (p.length : Int) i = some t := by
  intro d
  induction d with
  | zero =>
    intro k i hd hk
    obtain ⟨k, rfl⟩ := rounds_succ hk
    simp only [slices_Compare_int_int.l0]; rw [if_neg (by omega)]
    split <;> exact ⟨_, rfl⟩
  | succ d ih =>
    intro k i hd hk
    obtain ⟨k, rfl⟩ := rounds_succ hk
    simp only [slices_Compare_int_int.l0]; rw [if_pos (by omega), if_pos (by omega), if_pos (by omega)]
    by_cases h1 : (i : Int) ≥ (q.length : Int)
    · rw [if_pos h1]; exact ⟨_, rfl⟩
    · rw [if_neg h1, if_pos (by omega), cmpi_eq, Option.bind_some]
      generalize (if rd p ↑i < rd q ↑i then (-1 : Int) else if rd p ↑i > rd q ↑i then 1 else 0) = t
      by_cases h2 : t = 0
      · rw [if_pos h2, wrs (by omega)]; exact ih k (i + 1) (by omega) (by omega)
      · rw [if_neg h2]; exact ⟨_, rfl⟩
def putA (A : List (List Int)) (a b : Int) (j : Nat) : List (List Int) := A.take j ++ [a, b] :: A.drop j
def resA (n : Int) (A : List (List Int)) (a b : Int) (j : Nat) : Int × List (List Int) × Bool := if isG n (putA A a b j) = true then (n, putA A a b j, true) else (n, A, false)
theorem putA_len (A : List (List Int)) (a b : Int) (j : Nat) : (putA A a b j).length = A.length + 1 := by
  unfold putA; simp only [List.length_append, List.length_cons, List.length_take, List.length_drop]; omega
theorem add_j1 (n : Int) (A : List (List Int)) (a b : Int) (hA : A.length ≤ 1000000) (hr : ∀ r ∈ A, r.length ≤ 1048576) (j : Nat) (hj : j ≤ A.length) (k : Nat) (hk : A.length + 20 < k) : impl_AddAttack.j1 k [a, b] j n A n A = some (resA n A a b j) := by
  obtain ⟨k, rfl⟩ := rounds_succ hk
  have hl := putA_len A a b j
  simp only [impl_AddAttack.j1]
  unfold impl_AddAttack.ins
  rw [if_pos (by omega), Option.bind_some, Int.toNat_natCast, show A.take j ++ [a, b] :: A.drop j = putA A a b j from rfl, impl_IsGraph_eq n _ (by omega) k (by omega), Option.bind_some]
  unfold resA
  by_cases h : isG n (putA A a b j) = true
  · rw [if_pos h, if_pos h]
  · rw [if_neg h, if_neg h, clone_eq n A (by omega) hr k (by omega), Option.bind_some]
theorem add_l (n : Int) (A : List (List Int)) (a b : Int) (hA : A.length ≤ 1000000) (hr : ∀ r ∈ A, r.length ≤ 1000000) : ∀ (d k i : Nat), i + d = A.length → d + A.length + 1000100 < k → ∃ j, j ≤ A.length ∧ impl_AddAttack.l0 k [a, b] i n A n A = some (resA n A a b j) := by
  have hr2 : ∀ r ∈ A, r.length ≤ 1048576 := fun r h => by have := hr r h; omega
  intro d
  induction d with
  | zero =>
    intro k i hd hk
    obtain ⟨k, rfl⟩ := rounds_succ hk
    simp only [impl_AddAttack.l0]; rw [if_neg (by omega)]
    exact ⟨i, by omega, add_j1 n A a b hA hr2 i (by omega) k (by omega)⟩
  | succ d ih =>
    intro k i hd hk
    obtain ⟨k, rfl⟩ := rounds_succ hk
    have hm := hr _ (rdL_mem A i (by omega))
    obtain ⟨t, ht⟩ := cmp_l (rd_L1 A (i : Int)) [a, b] (by omega) (rd_L1 A (i : Int)).length k 0 (by omega) (by omega)
    simp only [impl_AddAttack.l0]; rw [if_pos (by omega), if_pos (by omega)]
    unfold slices_Compare_int_int.f
    rw [show (0 : Int) = ((0 : Nat) : Int) from rfl, ht, Option.bind_some, show ((0 : Nat) : Int) = (0 : Int) from rfl]
    by_cases h : t < 0
    · rw [if_pos h, wrs (by omega)]; exact ih k (i + 1) (by omega) (by omega)
    · rw [if_neg h]; exact ⟨i, by omega, add_j1 n A a b hA hr2 i (by omega) k (by omega)⟩
theorem add_eq (n : Int) (A : List (List Int)) (a b : Int) (hA : A.length ≤ 1000000) (hr : ∀ r ∈ A, r.length ≤ 1000000) (k : Nat) (hk : 2 * A.length + 1000100 < k) : ∃ j, j ≤ A.length ∧ impl_AddAttack.f k n A a b = some (resA n A a b j) := by
  unfold impl_AddAttack.f
  rw [clone_eq n A (by omega) (fun r h => by have := hr r h; omega) k (by omega), Option.bind_some]
  exact add_l n A a b hA hr A.length k 0 (by omega) (by omega)
theorem put_has (A : List (List Int)) (a b : Int) (j : Nat) : [a, b] ∈ putA A a b j := by
  unfold putA; exact List.mem_append_right _ (List.mem_cons_self ..)
theorem put_not {n : Int} {A : List (List Int)} {a b : Int} {j : Nat} (h : isG n (putA A a b j) = true) : ¬ b ∈ vic n A a := by
  intro hm
  by_cases hg : isG n A = true
  · obtain ⟨p, hp, e1, e2⟩ := (memV hg a b).1 hm
    have hs := isG_sorted h
    unfold putA at hs
    rw [List.pairwise_append, List.pairwise_cons] at hs
    have r0 : rd [a, b] 0 = a := rfl
    have r1 : rd [a, b] 1 = b := rfl
    have hp2 : p ∈ A.take j ++ A.drop j := by rw [List.take_append_drop]; exact hp
    rcases List.mem_append.1 hp2 with hx | hx
    · have := (lex_iff _ _).1 (hs.2.2 p hx [a, b] (List.mem_cons_self ..)); omega
    · have := (lex_iff _ _).1 (hs.2.1.1 p hx); omega
  · unfold vic at hm; rw [if_neg hg] at hm; cases hm
theorem any_hit {n : Int} {A : List (List Int)} (hg : isG n A = true) (S : List Int) (c : Int) : (S.any fun s => decide (c ∈ vic n A s)) = decide (c ∈ hitG n A S) := by
  rw [Bool.eq_iff_iff, List.any_eq_true, decide_eq_true_eq]
  have hm : c ∈ hitG n A S ↔ hitb A S c = true := by unfold hitG; rw [if_pos hg]; exact mem_hit hg c
  rw [hm, hitb_iff]
  constructor
  · rintro ⟨s, hs, h⟩
    obtain ⟨p, hp, e1, e2⟩ := (memV hg s c).1 (of_decide_eq_true h)
    exact ⟨p, hp, e2, by rw [e1]; exact hs⟩
  · rintro ⟨p, hp, e1, e2⟩
    exact ⟨rd p 0, e2, decide_eq_true ((memV hg _ c).2 ⟨p, hp, rfl, e1⟩)⟩
theorem gg_tail (n : Int) (A : List (List Int)) (a : Int) (n2 : Int) (A2 : List (List Int)) (S : List Int) (i : Int) (hA : A.length ≤ 100) (k : Nat) (hk : 1000 < k) : laws_FnGraphs.j2 k a S (hitG n2 A2 S) i false n A n2 A2 = some true := by
  obtain ⟨k, rfl⟩ := rounds_succ hk
  have h1 := hitG_len n2 A2 S
  have h2 := att_len n A a
  have h3 := vic_len n A a
  simp only [laws_FnGraphs.j2]
  rw [if_neg (by simp), laws_ascends_yes _ (by omega) (hitG_sorted n2 A2 S) k (by omega), Option.bind_some, if_pos rfl, impl_AttackersOf_eq n A a (by omega) k (by omega), Option.bind_some, laws_ascends_yes _ (by omega) (att_sorted n A a) k (by omega), Option.bind_some, if_pos rfl, impl_VictimsOf_eq n A a (by omega) k (by omega), Option.bind_some, laws_ascends_yes _ (by omega) (vic_sorted n A a) k (by omega), Option.bind_some]
theorem gg_l1 (n : Int) (A : List (List Int)) (a : Int) (n2 : Int) (A2 : List (List Int)) (S : List Int) (i : Nat) (hA2 : A2.length ≤ 100) (hS : S.length ≤ 100) (hi : i < 100) (hg : isG n2 A2 = true) (B : Nat) (hB : 1000 < B) (hn : ∀ k, B < k → laws_FnGraphs.l0 k a S (hitG n2 A2 S) ((i + 1 : Nat) : Int) n A n2 A2 = some true) : ∀ (d k j : Nat) (t : Bool), j + d = S.length → t = ((S.take j).any fun s => decide ((i : Int) ∈ vic n2 A2 s)) → d + B + 2 < k → laws_FnGraphs.l1 k a S (hitG n2 A2 S) i t j n A n2 A2 = some true := by
  have h1 := hitG_len n2 A2 S
  intro d
  induction d with
  | zero =>
    intro k j t hd ht hk
    obtain ⟨k, rfl⟩ := rounds_succ hk
    rw [List.take_of_length_le (by omega), any_hit hg] at ht
    simp only [laws_FnGraphs.l1]; rw [if_neg (by omega), laws_contains_eq _ _ (by omega) k (by omega), Option.bind_some, ht, if_neg (by simp), wrs (by omega)]
    exact hn k (by omega)
  | succ d ih =>
    intro k j t hd ht hk
    obtain ⟨k, rfl⟩ := rounds_succ hk
    have hx : (S.take (j + 1)).any (fun s => decide ((i : Int) ∈ vic n2 A2 s)) = (t || decide ((i : Int) ∈ vic n2 A2 (rd S j))) := by
      rw [ht, List.take_succ_eq_append_getElem (show j < S.length by omega), List.any_append, rd_nat S j (by omega)]; simp
    simp only [laws_FnGraphs.l1]; rw [if_pos (by omega), wrs (by omega)]
    cases t with
    | true =>
      rw [if_pos rfl]
      exact ih k (j + 1) true (by omega) (by rw [hx]; rfl) (by omega)
    | false =>
      rw [if_neg (by simp), if_pos (by omega), doesAtt_eq n2 A2 _ _ (by omega) k (by omega), Option.bind_some]
      exact ih k (j + 1) _ (by omega) (by rw [hx]; simp) (by omega)
set_option maxRecDepth 100000 in
theorem gg_l0 (n : Int) (A : List (List Int)) (a : Int) (n2 : Int) (A2 : List (List Int)) (S : List Int) (hA : A.length ≤ 100) (hA2 : A2.length ≤ 100) (hS : S.length ≤ 100) (hg : isG n2 A2 = true) : ∀ (d k i : Nat), i + d = n2.toNat → d * 110 + 1100 < k → laws_FnGraphs.l0 k a S (hitG n2 A2 S) i n A n2 A2 = some true := by
  have hn := (isG_ok hg).1
  intro d
  induction d with
  | zero =>
    intro k i hd hk
    obtain ⟨k, rfl⟩ := rounds_succ hk
    simp only [laws_FnGraphs.l0]; rw [if_neg (by omega)]
    exact gg_tail n A a n2 A2 S i hA k (by omega)
  | succ d ih =>
    intro k i hd hk
    obtain ⟨k, rfl⟩ := rounds_succ hk
    obtain ⟨k, rfl⟩ := rounds_succ (show 0 < k by omega)
    simp only [laws_FnGraphs.l0]; rw [if_pos (by omega), impl_IsGraph_eq n2 A2 (by omega) (k + 1) (by omega), Option.bind_some, hg]
    simp only [laws_FnGraphs.j2]; rw [if_pos trivial]
    have h0 : false = ((S.take 0).any fun s => decide ((i : Int) ∈ vic n2 A2 s)) := by rw [List.take_zero]; rfl
    have h2 : S.length + (d * 110 + 1100) + 2 < k := by omega
    have h3 : i < 100 := by omega
    have h4 : 1000 < d * 110 + 1100 := by omega
    have h5 : (i + 1) + d = n2.toNat := by omega
    have h6 : 0 + S.length = S.length := by omega
    obtain ⟨B, hB⟩ : ∃ B, B = d * 110 + 1100 := ⟨_, rfl⟩
    rw [← hB] at h2 h4
    have h7 : ∀ k, B < k → laws_FnGraphs.l0 k a S (hitG n2 A2 S) ((i + 1 : Nat) : Int) n A n2 A2 = some true := fun k hk => ih k (i + 1) h5 (by rw [← hB]; exact hk)
    have h1 := gg_l1 n A a n2 A2 S i hA2 hS h3 hg B h4 h7 S.length k 0 false h6 h0 h2
    exact h1
theorem gg_j0 (b : List Int) (hb : b.length ≤ 1048576) (n : Int) (A : List (List Int)) (a : Int) (hA : A.length ≤ 100) (k : Nat) (hk : b.length + 8000 < k) : laws_FnGraphs.j0 k b a n A = some true := by
  obtain ⟨k, rfl⟩ := rounds_succ hk
  obtain ⟨n2, A2, S, e, hs, hS⟩ := dHit b hb k (by omega)
  have hA2 := hs.1
  simp only [laws_FnGraphs.j0]
  rw [e, Option.bind_some]; simp only []
  rw [impl_HitBy_eq n2 A2 S (by omega) (by omega) k (by omega), Option.bind_some]
  by_cases hg : isG n2 A2 = true
  · have hn := (isG_ok hg).1
    exact gg_l0 n A a n2 A2 S hA (by omega) (by omega) hg n2.toNat k 0 (by omega) (by omega)
  · obtain ⟨k, rfl⟩ := rounds_succ (show 0 < k by omega)
    have hf : isG n2 A2 = false := by simpa using hg
    simp only [laws_FnGraphs.l0]
    rw [impl_IsGraph_eq n2 A2 (by omega) k (by omega), Option.bind_some, hf]
    split <;> exact gg_tail n A a n2 A2 S 0 hA k (by omega)
theorem draw_AA (b : List Int) (hb : b.length ≤ 1048576) (k : Nat) (hk : b.length + 7100 < k) : ∃ n A x y, spec_DrawAddAttack.f k b = some (n, A, x, y) ∧ Sm 11 A := by
  obtain ⟨h0, e0⟩ := l1New_eq b hb k (by omega)
  have c0 : Cur b 0 := by unfold Cur; omega
  obtain ⟨n, A, i1, k1, e1, hs, g1⟩ := l4Any_eq b hb 0 h0 c0 k (by omega)
  unfold spec_DrawAddAttack.f spec_DrawDoesAttack.f spec_DrawAttackersOf.f
  rw [e0, Option.bind_some]; simp only []
  rw [e1, Option.bind_some]; simp only []
  obtain ⟨x1, i2, k2, e2, _, _, g2⟩ := l1Below_eq b hb i1 k1 g1 7
  rw [e2, Option.bind_some]; simp only []
  obtain ⟨x2, i3, k3, e3, _, _, g3⟩ := l1Below_eq b hb i2 k2 g2 7
  rw [e3, Option.bind_some]; simp only []
  obtain ⟨x3, i4, k4, e4, g4⟩ := l4Raw_eq b hb i3 k3 g3
  rw [e4, Option.bind_some]; simp only []
  obtain ⟨x5, i5, k5, e5, _⟩ := l1Int_eq b hb i4 k4 g4 [x1, x2, x3] (by simp)
  rw [e5, Option.bind_some]; simp only []
  obtain ⟨x6, i6, k6, e6, _⟩ := l1Below_eq b hb 0 h0 c0 7
  simp only [Option.bind_some]
  rw [e6]
  exact ⟨n, A, _, _, rfl, hs⟩
theorem FnGraphs : laws_FnGraphs.Pure := by
  intro b _ _ _
  obtain ⟨K, hK⟩ : ∃ K, K = b.length + 1100000 := ⟨_, rfl⟩
  refine ⟨K, ?_⟩
  unfold laws_FnGraphs.f laws_big.f
  rw [Option.bind_some]
  by_cases hb : b.length ≤ 1048576
  · rw [if_neg (by simp; omega)]
    obtain ⟨n, A, x, y, e, hs⟩ := draw_AA b hb K (by omega)
    have hA := hs.1
    rw [e, Option.bind_some]; simp only []
    obtain ⟨j, hj, ej⟩ := add_eq n A x y (by omega) (fun r h => by have := hs.2 r h; omega) K (by omega)
    rw [ej, Option.bind_some]
    have hl := putA_len A x y j
    have hj0 := gg_j0 b hb n A x (by omega) K (by omega)
    unfold resA
    by_cases h : isG n (putA A x y j) = true
    · have m1 : y ∈ vic n (putA A x y j) x := (memV h x y).2 ⟨_, put_has A x y j, rfl, rfl⟩
      have m2 : x ∈ att n (putA A x y j) y := (memA h y x).2 ⟨_, put_has A x y j, rfl, rfl⟩
      have m3 := put_not h
      have v1 := vic_len n (putA A x y j) x
      have v2 := att_len n (putA A x y j) y
      rw [if_pos h]; simp only []
      rw [if_pos trivial, impl_IsGraph_eq n _ (by omega) K (by omega), Option.bind_some, if_pos h, hl, if_pos (by rw [wr (by omega) (by omega)]; omega), doesAtt_eq n _ x y (by omega) K (by omega), Option.bind_some, if_pos (decide_eq_true m1), doesAtt_eq n A x y (by omega) K (by omega), Option.bind_some, if_neg (by simpa using m3),
        impl_AttackersOf_eq n _ y (by omega) K (by omega), Option.bind_some, laws_contains_eq _ _ (by omega) K (by omega), Option.bind_some, if_pos (decide_eq_true m2), impl_VictimsOf_eq n _ x (by omega) K (by omega), Option.bind_some, laws_contains_eq _ _ (by omega) K (by omega), Option.bind_some, if_pos (decide_eq_true m1)]
      exact hj0
    · rw [if_neg h]; simp only []
      rw [if_neg (by simp), if_pos trivial, if_pos trivial]
      exact hj0
  · rw [if_pos (by simp; omega)]
end Go.Proofs.Ytelkfhlnejlheaa.Pure
