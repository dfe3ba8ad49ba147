/- Short words for the printed texts: what lies in a world lies in the worlds that follow by new blocks and draws (a class finds the way), and the steps of a region in one row each. Conditions: none. -/
import Derived.WalkKit
import Derived.Deep.QuietTactic
import Derived.Test.YtpdpampmbdgofaaTWords
import Derived.Test.YtpdpampmbdgofaaTLast
import Derived.Test.YtpdpampmbdgofaaTTab
import Derived.Test.YtpdpampmbdgofaaTApart
namespace Go.Proofs.YtpdpampmbdgofaaW.PrintWords
open Go.RowKit Go.Proofs.YtpdpampmbdgofaaW.PrintLast
set_option linter.unusedVariables false
/-- W' is W, but for new blocks and draws. -/
class Mv (W W' : World) : Prop where out : Below W.heap.size W W'
instance mv0 (W : World) : Mv W W := ⟨Below.refl _ _⟩
instance mv1 (W V : World) (o : Obj) [h : Mv W V] : Mv W (V.alloc o) := ⟨below_alloc h.out o⟩
instance mv2 (W V : World) (n : Nat) [h : Mv W V] : Mv W (V.drewN n) := ⟨pw_below_drewN h.out n⟩
instance mv3 (W V : World) [h : Mv W V] : Mv W V.drew := ⟨below_drew1 h.out⟩
theorem mB {w W W' : World} (h : Below w.heap.size w W) [m : Mv W W'] : Below w.heap.size w W' := below_step h m.out
/-- .. behind stores into blocks that are new since w, too: the facts are looked for. -/
theorem mG {p : Prop} (h : p := by (repeat (first | (with_reducible first | exact Aside0.out (by assumption) | apply below_alloc | apply pw_below_drewN | apply below_drew1 | refine below_set ?_ (Aside0.out (by assumption))) | exact Aside0.out (by assumption)))) : p := h
theorem mK {W W' : World} {g : Nat} {o : Obj} (h : W.heap[g]? = some o) [m : Mv W W'] : W'.heap[g]? = some o := blk_below h m.out
/-- W is W' without its last new blocks and draws. -/
class Pv (W' : World) (W : outParam World) : Prop where out : Below W.heap.size W W'
instance (priority := low) pv0 (W : World) : Pv W W := ⟨Below.refl _ _⟩
instance pv1 (W V : World) (o : Obj) [h : Pv V W] : Pv (V.alloc o) W := ⟨below_alloc h.out o⟩
instance pv2 (W V : World) (n : Nat) [h : Pv V W] : Pv (V.drewN n) W := ⟨pw_below_drewN h.out n⟩
instance pv3 (W V : World) [h : Pv V W] : Pv V.drew W := ⟨below_drew1 h.out⟩
theorem pK {W W' : World} {g : Nat} {o : Obj} [m : Pv W' W] (h : W.heap[g]? = some o) : W'.heap[g]? = some o := blk_below h m.out
section
variable {α : Type} {d : Kd α} {e base n : Nat} {ok : Nat → Prop} {v : Value} {xs : List α} {W W' : World} {A : Option Addr}
theorem mR (h : d.R e W base ok v xs) [m : Mv W W'] : d.R e W' base ok v xs := Kd.R_below h m.out
theorem mS (h : Kd.S d e W base ok v xs) [m : Mv W W'] : Kd.S d e W' base ok v xs := Kd.S_below h m.out
theorem mC (h : d.C W A n xs) [m : Mv W W'] : d.C W' A n xs := Kd.C_below h m.out
end
/-- The first m of n. -/
def L_ (m n : Nat) : Array Bool := ((List.range n).map fun j => decide (j < m)).toArray
section
variable {P : Program} {md : Region.Mode} {ops : Array Oper} {Q : Exit → Act → World → Prop} {S : World → Prop} {ds : List Nat}
theorem ps (i N : Nat) (l' : Array Bool) {T : Bool × List (List Nat × List Nat)} {oi : Oper} {v : Value} {fuel : Nat} {l : Array Bool} {a a' : Act} {w : World} (hT : rtab md ops = T)
    (h : wpAnyLast P md ops Q S ds fuel l' a' w)
    (hi : ops[i]? = some oi := by exact rfl) (hN : oi.dst = some N := by exact rfl) (hc : anyT T l.toList l'.toList i = true := by kernel_rfl)
    (hQ : ∀ c a w, Q (.panic c) (a.put oi.dst v) w → Q (.panic c) a w := by exact fun _ _ _ h => h)
    (hy : Yields P ops oi v a := by exact Or.inl ⟨by rfl, by intro w'; go_simp; with_reducible rfl⟩)
    (ha : a.put (some N) v = a' := by (simp only [Act.put, List.setIfInBounds_toArray, List.set_cons_zero, List.set_cons_succ, i64_w, i32_w]; rfl)) :
    wpAnyLast P md ops Q S ds (fuel + 1) l a w := pure_ (i := i) (N := some N) l' hi hN (any_of hT hc) hQ hy ha h
theorem pq (i N : Nat) (l' : Array Bool) {oi : Oper} {v : Value} {fuel : Nat} {l : Array Bool} {a a' : Act} {w : World}
    (h : wpAnyLast P md ops Q S ds fuel l' a' w)
    (hi : ops[i]? = some oi := by exact rfl) (hN : oi.dst = some N := by exact rfl) (hc : anyB md ops l l' i = true := by kernel_rfl)
    (hQ : ∀ c a w, Q (.panic c) (a.put oi.dst v) w → Q (.panic c) a w := by exact fun _ _ _ h => h)
    (hy : Yields P ops oi v a := by exact Or.inl ⟨by rfl, by intro w'; go_simp; with_reducible rfl⟩)
    (ha : a.put (some N) v = a' := by (simp only [Act.put, List.setIfInBounds_toArray, List.set_cons_zero, List.set_cons_succ, i64_w, i32_w]; rfl)) :
    wpAnyLast P md ops Q S ds (fuel + 1) l a w := pure_ (i := i) (N := some N) l' hi hN hc hQ hy ha h
end
theorem mA {p : Prop} (h : p := by ((try simp only [List.map_toArray, List.map_cons, List.map_nil]); first | done | rfl | (simp only [List.length_drop, List.length_take]; rfl))) : p := h
theorem mD {p : Prop} [i : Decidable p] (h : decide p = true := by first | (with_reducible assumption) | assumption) : p := of_decide_eq_true h
theorem mE {p : Prop} (h : p := by first | rfl | (simp [errW_none, errW_some] <;> rfl) | (simp [*, errW_none, errW_some] <;> rfl)) : p := h
theorem mF {p : Prop} (h : p := by first | rfl | (simp; done) | (simp [*]; done)) : p := h
end Go.Proofs.YtpdpampmbdgofaaW.PrintWords
