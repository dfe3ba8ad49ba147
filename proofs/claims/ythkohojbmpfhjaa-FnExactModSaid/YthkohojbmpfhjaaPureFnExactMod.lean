/- The program's Mod answers as the reference's does, for all two integers. Conditions: none. -/
import Derived.Test.YthkohojbmpfhjaaPFnExactModx1
import Derived.OpenShut
namespace Go.Proofs.Ythkohojbmpfhjaa.Pure
open Go.RowKit Go.Proofs.Ythkohojbmpfhjaa.PFnExactMod Go.Proofs.YthkohojbmpfhjaaW.PrintWords Go.Proofs.YthkohojbmpfhjaaW.PrintLast
theorem wr {i : Int} (h0 : -9223372036854775808 ≤ i) (h : i ≤ 9223372036854775807) : wrap64 i = i := by unfold wrap64; omega
theorem wrs {i : Nat} (h : i < 9223372036854775807) : wrap64 ((i : Int) + 1) = ((i + 1 : Nat) : Int) := by unfold wrap64; omega
theorem rd_nat (l : List Int) (i : Nat) (h : i < l.length) : rd l (i : Int) = l[i] := by simp [rd, h]
theorem rd_some (l : List Int) (i : Nat) (h : i < l.length) : l[i]? = some (rd l (i : Int)) := by rw [rd_nat l i h, List.getElem?_eq_getElem h]
theorem rounds_succ {d k : Nat} (h : d < k) : ∃ m, k = m + 1 := ⟨k - 1, by omega⟩
theorem in_i64 {n : Int} (h : (Lit.int .i64 n).wf = true) : -9223372036854775808 ≤ n ∧ n ≤ 9223372036854775807 := bounds_i64 h
theorem in_u8 {n : Int} (h : (Lit.int .u8 n).wf = true) : 0 ≤ n ∧ n ≤ 255 := bounds_u8 h
theorem impl_InRange_eq (a b c : Int) : impl_InRange.f a b c = some (decide (b ≤ a ∧ a ≤ c)) := by
  unfold impl_InRange.f; by_cases h : b ≤ a <;> simp [h]
theorem spec_l1In_eq (a b c : Int) : spec_l1In.f a b c = some (decide (b ≤ a ∧ a ≤ c)) := by
  unfold spec_l1In.f; by_cases h : b ≤ a <;> simp [h]
theorem tmod_cases (a b : Int) (hb : 0 < b) : (0 ≤ a.tmod b ∧ a.tmod b = a % b) ∨ (a.tmod b < 0 ∧ a.tmod b + b = a % b) := by
  have h1 := Int.emod_nonneg a (show b ≠ 0 by omega)
  have h2 := Int.emod_lt_of_pos a hb
  rw [Int.tmod_eq_emod]
  split
  · left; omega
  · rename_i hn
    have : a % b ≠ 0 := fun e => hn (.inr (Int.dvd_of_emod_eq_zero e))
    right; omega
theorem tmod_nn (a b : Int) (ha : 0 ≤ a) : a.tmod b = a % b := by rw [Int.tmod_eq_emod, if_pos (.inl ha)]; omega
def pmod (a b : Int) : Int := if 1 ≤ b ∧ b ≤ 1000000000000 then a % b else 0
theorem impl_Mod_eq (a b : Int) : impl_Mod.f a b = some (pmod a b) := by
  unfold impl_Mod.f pmod
  rw [impl_InRange_eq]
  by_cases h : 1 ≤ b ∧ b ≤ 1000000000000
  · have h1 := Int.emod_nonneg a (show b ≠ 0 by omega)
    have h2 := Int.emod_lt_of_pos a (show 0 < b by omega)
    simp only [h, and_self, decide_true, Option.bind_some, if_true]
    rw [if_neg (by omega)]
    rcases tmod_cases a b (by omega) with ⟨h3, h4⟩ | ⟨h3, h4⟩
    · rw [if_neg (by omega), h4]
    · rw [if_pos h3, h4, wr (by omega) (by omega)]
  · simp [h]
theorem spec_Mod_eq (a b : Int) : spec_Mod.f a b = some (pmod a b) := by
  unfold spec_Mod.f pmod
  rw [spec_l1In_eq]
  by_cases h : 1 ≤ b ∧ b ≤ 1000000000000
  · have h1 := Int.emod_nonneg a (show b ≠ 0 by omega)
    have h2 := Int.emod_lt_of_pos a (show 0 < b by omega)
    simp only [h, and_self, decide_true, Option.bind_some, if_true]
    rw [if_neg (by omega)]
    rcases tmod_cases a b (by omega) with ⟨h3, h4⟩ | ⟨h3, h4⟩
    · rw [h4, wr (by omega) (by omega), tmod_nn _ _ (by omega), Int.add_emod_right, Int.emod_emod_of_dvd _ (Int.dvd_refl b)]
    · rw [h4, wr (by omega) (by omega), tmod_nn _ _ (by omega), Int.emod_emod_of_dvd _ (Int.dvd_refl b)]
  · simp [h]
theorem FnExactMod : laws_FnExactMod.Pure := by
  intro a b _ _
  unfold laws_FnExactMod.f
  simp [spec_Mod_eq, impl_Mod_eq]
end Go.Proofs.Ythkohojbmpfhjaa.Pure
