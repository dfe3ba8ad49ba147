/- What a graph, or a list of lists of whole numbers, that comes into a law reads as: lists of numbers, with their lengths and bounds. Conditions: none. -/
import Derived.Deep.Matrix
import Derived.Lib.SmallJoins
import Derived.Test.YtpdpampmbdgofaaTWords
import Derived.Test.YtpdpampmbdgofaaTMore
namespace Go.Proofs.Ytpdpampmbdgofaa.Open
open Go.Joins Go.ChangeShapes Go.WideShapes Go.ChangeAt Go.RowKit Go.Deep Go.Proofs.YtpdpampmbdgofaaW.PrintWords Go.Proofs.YtpdpampmbdgofaaW.PrintLast
theorem ints_C {W : World} {A : Option Addr} {L C : Nat} {Z : List Int} (hL : L ≤ C) (hC : C ≤ maxLen) (hZ : Z.length = C) (hn : A = none → C = 0) (hc : ∀ a', A = some a' → ∀ c, c < C → W.cell? (a'.add c) = some (.int .i64 (Z.getD c 0))) :
    Kd.C (Kd.int .i64) W A (Z.take L).length (Z.take L) := by
  have hl : (Z.take L).length = L := by rw [List.length_take]; omega
  refine ⟨rfl, by unfold maxLen at hC; omega, fun hpos => ?_⟩
  cases A with
  | none => have := hn rfl; omega
  | some a' =>
    refine ⟨a', rfl, fun j p hj => ⟨[.int .i64 p], rfl, rfl, fun i u hu => ?_⟩⟩
    have hjl : j < L := by
      have := (List.getElem?_eq_some_iff.1 hj).1
      omega
    cases i with
    | succ i => simp at hu
    | zero =>
      simp at hu; subst hu
      have := hc a' rfl j (by omega)
      rw [List.getElem?_take, if_pos hjl] at hj
      rw [List.getD_eq_getElem?_getD, hj] at this
      simpa [Kd.int, Kd.scalar] using this
theorem rows_open {H : Type} {enc : TypeId × Value → H} {P : Program} {W : World} {base : Nat} {held : Bool} {t e q : TypeId} {fuel : Nat} {v : Value} {x : DataW H × List MemPlace}
    (ht : P.underlying t = some (.slice e)) (he : P.underlying e = some (.slice q)) (hq : P.underlying q = some (.int .i64)) (ce : P.cellsOf e = 1) (cq : P.cellsOf q = 1)
    (h : DataW.trod enc P W base (fun _ => true) held fuel t [v] = some x) :
    ∃ (A : Option Addr) (c : Nat) (l : List (List Int)), v = .slice A l.length c ∧ Kd.C (Kd.slice q (Kd.int .i64)) W A l.length l ∧ l.length ≤ c ∧ l.length ≤ maxLen ∧ ∀ r ∈ l, r.length ≤ maxLen ∧ ∀ n ∈ r, (Lit.int .i64 n).wf = true := by
  rcases open_int_rows ht he hq ce cq h with ⟨hcs, _⟩ | ⟨a, len, cap, A, L, C, Z, hcs, _, hl, hm, _, hrows⟩
  · obtain rfl : v = .slice none 0 0 := by simpa using hcs
    exact ⟨none, 0, [], rfl, Kd.C_nil _ _, Nat.le_refl _, Nat.zero_le _, fun r hr => by cases hr⟩
  · obtain rfl : v = .slice (some a) len cap := by simpa using hcs
    have hll : ((List.range len).map fun (r : Nat) => (Z r).take (L r)).length = len := by simp
    refine ⟨some a, cap, (List.range len).map fun (r : Nat) => (Z r).take (L r), by rw [hll], ?_, by omega, by omega, ?_⟩
    · refine ⟨rfl, by unfold maxLen at hm; omega, fun _ => ⟨a, rfl, fun j p hj => ?_⟩⟩
      have hjl : j < len := by
        have := (List.getElem?_eq_some_iff.1 hj).1
        omega
      obtain ⟨hcell, g1, g2, g3, _, g5, g6⟩ := hrows j (by omega)
      have hp : p = (Z j).take (L j) := by
        rw [List.getElem?_map, List.getElem?_range hjl] at hj
        simpa using hj.symm
      subst hp
      have hlen : ((Z j).take (L j)).length = L j := by rw [List.length_take]; omega
      refine ⟨[.slice (A j) (L j) (C j)], rfl, ⟨A j, C j, by rw [hlen], by rw [hlen]; exact g1, ints_C g1 g2 g3 g5 (fun a' ha' => (g6 a' ha').2)⟩, fun i u hu => ?_⟩
      cases i with
      | succ i => simp at hu
      | zero =>
        simp at hu; subst hu
        simpa [Kd.slice] using hcell
    · intro r hr
      obtain ⟨j, hj, rfl⟩ := List.mem_map.1 hr
      obtain ⟨_, g1, g2, g3, g4, _, _⟩ := hrows j (by have := List.mem_range.1 hj; omega)
      refine ⟨by rw [List.length_take]; omega, fun n hn => g4 n (List.mem_of_mem_take hn)⟩
theorem graph_open {H : Type} {enc : TypeId × Value → H} {P : Program} {W : World} {base : Nat} {held : Bool} {r : Reach} {b0 : Nat} {t e q : TypeId} {f0 f1 : Field} {v : Value} {d : DataW H} {p : List MemPlace}
    (hs : P.underlying t = some (.struct #[f0, f1])) (hone : oneCellFields P #[f0, f1] = true) (hC : P.cellsOf t = 2) (h0t : P.underlying f0.type = some (.int .i64))
    (h1t : P.underlying f1.type = some (.slice e)) (he : P.underlying e = some (.slice q)) (hq : P.underlying q = some (.int .i64)) (ce : P.cellsOf e = 1) (cq : P.cellsOf q = 1)
    (hv : Value.okWide P W r b0 t v) (h : DataW.Trod enc P W base (fun _ => true) held t v d p) :
    ∃ (a : Int) (A : Option Addr) (c : Nat) (l : List (List Int)), v = .agg #[.int .i64 a, .slice A l.length c] ∧ (Lit.int .i64 a).wf = true ∧ Kd.C (Kd.slice q (Kd.int .i64)) W A l.length l ∧ l.length ≤ c ∧ l.length ≤ maxLen ∧ ∀ r ∈ l, r.length ≤ maxLen ∧ ∀ n ∈ r, (Lit.int .i64 n).wf = true := by
  obtain ⟨v0, v1, y0, y1, n, rfl, _, _, hy0, hy1⟩ := Go.Joins.open_agg2 hs hone hC hv h
  obtain ⟨a, e0, _, wa⟩ := DataW.trod_int h0t hy0
  obtain rfl : v0 = .int .i64 a := by simpa using e0
  obtain ⟨A, c, l, rfl, g1, g2, g3, g4⟩ := rows_open h1t he hq ce cq hy1
  exact ⟨a, A, c, l, rfl, wa, g1, g2, g3, g4⟩
end Go.Proofs.Ytpdpampmbdgofaa.Open
