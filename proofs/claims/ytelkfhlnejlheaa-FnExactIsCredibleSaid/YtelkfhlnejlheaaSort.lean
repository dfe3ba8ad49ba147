import Derived.Test.YtelkfhlnejlheaaShelf
import Derived.Test.YtelkfhlnejlheaaTWords
import Derived.Test.YtelkfhlnejlheaaTArr
import Derived.Sort.OwnSortedInts
import Derived.Lib.OwnBridge
namespace Go.Proofs.YtelkfhlnejlheaaW.Sorts
open Go.RowKit Go.Sort Go.Shelf Go.Proofs.YtelkfhlnejlheaaW.PrintWords
/-- The list sorted. -/
def sorted (l : List Int) : List Int := l.mergeSort fun x y => decide (x ≤ y)
theorem own_of_R {e : Nat} {w : World} {B : Nat} {ok : Nat → Prop} {v : Value} {l : List Int} (h : (Kd.int .i64).R e w B ok v l) : w.ownsRow B e 1 v l.length (l.map (Value.int .i64)) := by
  obtain ⟨_, inner, ho, hr⟩ := h
  have := Kd.reps_encs hr
  subst this
  exact ho
theorem R_of_map {e : Nat} {w : World} {B : Nat} {v : Value} {l : List Int} (ho : w.ownsRow B e 1 v l.length (l.map (Value.int .i64))) : (Kd.int .i64).R e w B (fun _ => True) v l :=
  Kd.R_of_own ho (fun _ _ => trivial)
theorem sortc {w0 w : World} {B : Nat} {ok : Nat → Prop} {v : Value} {l : List Int} (hR : (Kd.int .i64).R 3 w B ok v l) (hB : Below B w0 w) (hBw : B ≤ w0.heap.size) (hl : l.length < 4611686018427387904) :
    Calls Try.prog 81 #[v] w fun e w' => e = .returned (.tuple #[]) ∧ (Kd.int .i64).R 3 w' B (fun _ => True) v (sorted l) ∧ Below B w0 w' := by
  have ho := own_of_R hR
  by_cases hv : v = .slice none 0 0
  · subst hv
    have hl0 : l = [] := by
      rcases ho.2 with ⟨_, h⟩ | ⟨g, cap, cur, h, _⟩
      · exact List.length_eq_zero_iff.1 h
      · cases h
    subst hl0
    refine (Try.slices_Sort_int_none none 0 w).mono ?_
    rintro e w' ⟨rfl, rfl⟩
    exact ⟨rfl, by simpa [sorted] using R_of_map ho, hB⟩
  · obtain ⟨g, cap, rfl, hbg, hgl, hn, hm, _, hH⟩ := Lib.holds_of_ownsRow ho hv
    refine (Try.slices_Sort_int g 0 cap l w hH hgl hl).mono ?_
    rintro e w' ⟨rfl, n, os, rfl⟩
    have hl2 : (sorted l).length = l.length := List.length_mergeSort l
    refine ⟨rfl, R_of_map ?_, hB.grown (grownBy_sortedI _) (Nat.le_trans hBw hB.size) (fun j hj => by cases hj; exact hbg)⟩
    rcases ho.2 with ⟨h0, _⟩ | ⟨g', cap', cur, hv', hb1, hb2, h1, h2, h3, h4⟩
    · cases h0
    cases hv'
    have := ownsRow_sortedI (n := n) (os := os) (ts := sorted l) hl2 hb1 hb2 h1 h2 h3
    rw [hl2]
    exact this
theorem compactc {w0 w : World} {B : Nat} {ok : Nat → Prop} {v : Value} {l : List Int} (hR : (Kd.int .i64).R 3 w B ok v l) (hB : Below B w0 w) (hl : l.length < 4611686018427387904) :
    Calls Try.prog 82 #[v] w fun e w' => ∃ v', e = .returned v' ∧ (Kd.int .i64).R 3 w' B (fun _ => True) v' (Lib.compact l) ∧ Below B w0 w' := by
  have ho := own_of_R hR
  by_cases hv : v = .slice none 0 0
  · subst hv
    have hl0 : l = [] := by
      rcases ho.2 with ⟨_, h⟩ | ⟨g, cap, cur, h, _⟩
      · exact List.length_eq_zero_iff.1 h
      · cases h
    subst hl0
    refine (Try.slices_Compact_int_empty none 0 w).mono ?_
    rintro e w' ⟨rfl, rfl⟩
    exact ⟨_, rfl, R_of_map (show w'.ownsRow B 3 1 _ (Lib.compact []).length ((Lib.compact []).map (Value.int .i64)) from ho), hB⟩
  · obtain ⟨g, cap, rfl, hbg, hgl, hn, hm, _, hH⟩ := Lib.holds_of_ownsRow ho hv
    refine (Try.slices_Compact_int g 0 cap l w hH (by omega) hn).mono ?_
    rintro e w' ⟨rfl, q, rfl⟩
    have hle := Lib.compact_length_le l
    refine ⟨_, rfl, R_of_map ?_, Lib.below_putRow hB hbg⟩
    have := Lib.ownsRow_putRow (q := q) (k := (Lib.compact l).length) (ys := Lib.compact l ++ List.replicate (l.length - (Lib.compact l).length) 0) ho (by simp; omega) hle
    rw [List.take_left] at this
    exact this
end Go.Proofs.YtelkfhlnejlheaaW.Sorts
