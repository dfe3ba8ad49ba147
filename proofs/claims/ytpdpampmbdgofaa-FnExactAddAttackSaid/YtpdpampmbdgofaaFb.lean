/- What a law over structs that bear rows of rows holds at a time: its boxes; the reference's rows, the argument's and the program's, their blocks apart. Conditions: none. -/
import Derived.Test.YtpdpampmbdgofaaTWords
import Derived.Test.YtpdpampmbdgofaaTApart
import Derived.Test.YtpdpampmbdgofaaTShare
import Derived.Test.YtpdpampmbdgofaaTMore
namespace Go.Proofs.YtpdpampmbdgofaaW.Pick
open Go.RowKit Go.Proofs.YtpdpampmbdgofaaW.PrintWords
set_option linter.unusedVariables false
theorem S_kept {α : Type} {d : Kd α} {e base : Nat} {ok S : Nat → Prop} {W W2 : World} {v : Value} {xs : List α} (h : Kd.S d e W base ok v xs) (hk : Kept W W2 S) (hne : ∀ k, ok k → ¬ S k) : Kd.S d e W2 base ok v xs :=
  Kd.S_step h (fun k ho hlt => hk.2 k hlt (hne k ho))
theorem V_kept {α : Type} {d : Kd α} {e base : Nat} {ok S : Nat → Prop} {W W2 : World} {v : Value} {xs : List α} (h : Kd.V d e W base ok v xs) (hk : Kept W W2 S) (hne : ∀ k, ok k → ¬ S k) : Kd.V d e W2 base ok v xs :=
  Kd.V_map h (fun _ hf => Kd.F_step hf (fun k ho hlt => hk.2 k hlt (hne k ho)))
theorem V_of_S {α : Type} {d : Kd α} {e base : Nat} {w : World} {ok : Nat → Prop} {v : Value} {xs : List α} (h : Kd.S d e w base ok v xs) : Kd.V d e w 0 (fun k => base ≤ k) v xs := Kd.N_V (Kd.R_N (Kd.S_R (Kd.S_mono (Kd.S_bound h) (fun _ a => a.2.1))))
structure Fb {α : Type} (d : Kd α) (e : Nat) (w : World) (L : List (Nat × Obj)) (okW : Nat → Prop) (vW : Value) (lW : List α) (okX : Nat → Prop) (vX : Value) (lX : List α) (okG : Nat → Prop) (vG : Value) (lG : List α) (W : World) : Prop where
  B : Below w.heap.size w W
  bx : ∀ p ∈ L, W.heap[p.1]? = some p.2
  pd : L.Pairwise fun p q => p.1 ≠ q.1
  q : ∀ p ∈ L, w.heap.size ≤ p.1
  fW : Kd.V d e W 0 okW vW lW
  fX : Kd.S d e W w.heap.size okX vX lX
  fG : Kd.S d e W w.heap.size okG vG lG
  uW : ∀ k, okW k → k < W.heap.size
  uX : ∀ k, okX k → k < W.heap.size
  uG : ∀ k, okG k → k < W.heap.size
  xW : ∀ k, okX k → ¬ okW k
  xG : ∀ k, okX k → ¬ okG k
  gW : ∀ k, okG k → ¬ okW k
  pW : ∀ k, okW k → ∀ p ∈ L, k ≠ p.1
  pX : ∀ k, okX k → ∀ p ∈ L, k ≠ p.1
  pG : ∀ k, okG k → ∀ p ∈ L, k ≠ p.1
namespace Fb
section
variable {α : Type} {d : Kd α} {e : Nat} {w : World} {L : List (Nat × Obj)} {okW okX okG : Nat → Prop} {vW vX vG : Value} {lW lX lG : List α} {W W1 : World}
theorem start (d : Kd α) (e : Nat) {w W : World} {g : Nat} {o : Obj} (B : Below w.heap.size w W) (b : W.heap[g]? = some o) (q : w.heap.size ≤ g) : Fb d e w [(g, o)] (fun _ => False) (.slice none 0 0) [] (fun _ => False) (.slice none 0 0) [] (fun _ => False) (.slice none 0 0) [] W :=
  ⟨B, fun p hp => by rw [List.mem_singleton.1 hp]; exact b, List.pairwise_singleton _ _, fun p hp => by rw [List.mem_singleton.1 hp]; exact q, Kd.V_nil _ _ _ _ _, Kd.S_nil _ _ _ _ _, Kd.S_nil _ _ _ _ _, fun _ h => h.elim, fun _ h => h.elim, fun _ h => h.elim, fun _ h => h.elim, fun _ h => h.elim, fun _ h => h.elim, fun _ h => h.elim, fun _ h => h.elim, fun _ h => h.elim⟩
theorem below (h : Fb d e w L okW vW lW okX vX lX okG vG lG W) (hb : Below W.heap.size W W1) : Fb d e w L okW vW lW okX vX lX okG vG lG W1 :=
  ⟨below_step h.B hb, fun p hp => blk_below (h.bx p hp) hb, h.pd, h.q, Kd.V_below h.fW hb, Kd.S_below h.fX hb, Kd.S_below h.fG hb, fun k a => Nat.lt_of_lt_of_le (h.uW k a) hb.size, fun k a => Nat.lt_of_lt_of_le (h.uX k a) hb.size, fun k a => Nat.lt_of_lt_of_le (h.uG k a) hb.size, h.xW, h.xG, h.gW, h.pW, h.pX, h.pG⟩
theorem box (h : Fb d e w L okW vW lW okX vX lX okG vG lG W) {g : Nat} {o : Obj} (hg : g = W.heap.size) (b : W1.heap[g]? = some o) (hb : Below W.heap.size W W1) : Fb d e w ((g, o) :: L) okW vW lW okX vX lX okG vG lG W1 := by
  have h2 := h.below hb
  have ne : ∀ k, k < W.heap.size → k ≠ g := fun k hk => by omega
  refine ⟨h2.B, fun p hp => ?_, List.pairwise_cons.2 ⟨fun p hp => ?_, h.pd⟩, fun p hp => ?_, h2.fW, h2.fX, h2.fG, h2.uW, h2.uX, h2.uG, h2.xW, h2.xG, h2.gW, fun k a p hp => ?_, fun k a p hp => ?_, fun k a p hp => ?_⟩
  · rcases List.mem_cons.1 hp with rfl | hp
    · exact b
    · exact h2.bx p hp
  · exact (ne p.1 (blk_lt (h.bx p hp))).symm
  · rcases List.mem_cons.1 hp with rfl | hp
    · show w.heap.size ≤ g; rw [hg]; exact h.B.size
    · exact h.q p hp
  · rcases List.mem_cons.1 hp with rfl | hp
    · exact ne k (h.uW k a)
    · exact h.pW k a p hp
  · rcases List.mem_cons.1 hp with rfl | hp
    · exact ne k (h.uX k a)
    · exact h.pX k a p hp
  · rcases List.mem_cons.1 hp with rfl | hp
    · exact ne k (h.uG k a)
    · exact h.pG k a p hp
theorem ne (h : Fb d e w L okW vW lW okX vX lX okG vG lG W) {g : Nat} {o : Obj} (hm : (g, o) ∈ L) {g' : Nat} {o' : Obj} (h' : Fb d e w ((g', o') :: L) okW vW lW okX vX lX okG vG lG W1) : g' ≠ g ∧ g ≠ g' := by
  have := (List.pairwise_cons.1 h'.pd).1 _ hm
  exact ⟨this, fun e => this e.symm⟩
theorem stored {g : Nat} {cs : Array Value} {t : Nat} (h : Fb d e w ((g, .cells cs t (0, 0)) :: L) okW vW lW okX vX lX okG vG lG W) (i : Nat) (u : Value) : Fb d e w ((g, .cells (cs.setIfInBounds i u) t (0, 0)) :: L) okW vW lW okX vX lX okG vG lG (W.setCell ⟨g, i, none⟩ u) := by
  have hk : Kept W (W.setCell ⟨g, i, none⟩ u) (fun k => k = g) := Kept.setCell (S := fun k => k = g) (p := ⟨g, i, none⟩) (Kept.refl W _) (.inl rfl) u
  have hd := List.pairwise_cons.1 h.pd
  have hB : Below w.heap.size w (W.setCell ⟨g, i, none⟩ u) := below_set h.B (h.q _ List.mem_cons_self)
  refine ⟨hB, fun p hp => ?_, List.pairwise_cons.2 ⟨hd.1, hd.2⟩, fun p hp => ?_, V_kept h.fW hk (fun k a => h.pW k a _ List.mem_cons_self), S_kept h.fX hk (fun k a => h.pX k a _ List.mem_cons_self), S_kept h.fG hk (fun k a => h.pG k a _ List.mem_cons_self), fun k a => Nat.lt_of_lt_of_le (h.uW k a) hk.1, fun k a => Nat.lt_of_lt_of_le (h.uX k a) hk.1, fun k a => Nat.lt_of_lt_of_le (h.uG k a) hk.1, h.xW, h.xG, h.gW, fun k a p hp => ?_, fun k a p hp => ?_, fun k a p hp => ?_⟩
  · rcases List.mem_cons.1 hp with rfl | hp
    · exact blk_put (h.bx _ List.mem_cons_self) i u rfl
    · exact blk_kept (h.bx p (List.mem_cons_of_mem _ hp)) hk (fun e => hd.1 p hp e.symm)
  · rcases List.mem_cons.1 hp with rfl | hp
    · exact h.q (g, .cells cs t (0, 0)) List.mem_cons_self
    · exact h.q p (List.mem_cons_of_mem _ hp)
  · rcases List.mem_cons.1 hp with rfl | hp
    · exact h.pW k a (g, .cells cs t (0, 0)) List.mem_cons_self
    · exact h.pW k a p (List.mem_cons_of_mem _ hp)
  · rcases List.mem_cons.1 hp with rfl | hp
    · exact h.pX k a (g, .cells cs t (0, 0)) List.mem_cons_self
    · exact h.pX k a p (List.mem_cons_of_mem _ hp)
  · rcases List.mem_cons.1 hp with rfl | hp
    · exact h.pG k a (g, .cells cs t (0, 0)) List.mem_cons_self
    · exact h.pG k a p (List.mem_cons_of_mem _ hp)
theorem newW (h : Fb d e w L okW vW lW okX vX lX okG vG lG W) {v : Value} {l : List α} (hv : Kd.V d e W1 0 (fun k => W.heap.size ≤ k) v l) (hb : Below W.heap.size W W1) : ∃ ok, Fb d e w L ok v l okX vX lX okG vG lG W1 := by
  have h2 := h.below hb
  have hl : ∀ p ∈ L, p.1 < W.heap.size := fun p hp => blk_lt (h.bx p hp)
  exact ⟨fun k => W.heap.size ≤ k ∧ k < W1.heap.size, h2.B, h2.bx, h2.pd, h2.q, Kd.V_map hv (fun _ hf => Kd.F_bound hf), h2.fX, h2.fG, fun k a => a.2, h2.uX, h2.uG, fun k a b => by have := h.uX k a; omega, h2.xG, fun k a b => by have := h.uG k a; omega, fun k a p hp => by have := hl p hp; omega, h2.pX, h2.pG⟩
theorem newX (h : Fb d e w L okW vW lW okX vX lX okG vG lG W) {v : Value} {l : List α} (hv : Kd.S d e W1 W.heap.size (fun _ => True) v l) (hb : Below W.heap.size W W1) : ∃ ok, Fb d e w L okW vW lW ok v l okG vG lG W1 := by
  have h2 := h.below hb
  have hl : ∀ p ∈ L, p.1 < W.heap.size := fun p hp => blk_lt (h.bx p hp)
  exact ⟨fun k => W.heap.size ≤ k ∧ k < W1.heap.size, h2.B, h2.bx, h2.pd, h2.q, h2.fW, Kd.S_lower (Kd.S_mono (Kd.S_bound hv) (fun k a => ⟨a.2.1, a.2.2.1⟩)) h.B.size, h2.fG, h2.uW, fun k a => a.2, h2.uG, fun k a b => by have := h.uW k b; omega, fun k a b => by have := h.uG k b; omega, h2.gW, h2.pW, fun k a p hp => by have := hl p hp; omega, h2.pG⟩
theorem newG (h : Fb d e w L okW vW lW okX vX lX okG vG lG W) {v : Value} {l : List α} (hv : Kd.S d e W1 W.heap.size (fun _ => True) v l) (hb : Below W.heap.size W W1) : ∃ ok, Fb d e w L okW vW lW okX vX lX ok v l W1 := by
  have h2 := h.below hb
  have hl : ∀ p ∈ L, p.1 < W.heap.size := fun p hp => blk_lt (h.bx p hp)
  exact ⟨fun k => W.heap.size ≤ k ∧ k < W1.heap.size, h2.B, h2.bx, h2.pd, h2.q, h2.fW, h2.fX, Kd.S_lower (Kd.S_mono (Kd.S_bound hv) (fun k a => ⟨a.2.1, a.2.2.1⟩)) h.B.size, h2.uW, h2.uX, fun k a => a.2, h2.xW, fun k a b => by have := h.uX k a; omega, fun k a b => by have := h.uW k b; omega, h2.pW, h2.pX, fun k a p hp => by have := hl p hp; omega⟩
theorem markX (h : Fb d e w L okW vW lW okX vX lX okG vG lG W) (hB : Below w.heap.size w W1) (hk : Kept W W1 okX) : Fb d e w L okW vW lW (fun _ => False) (.slice none 0 0) [] okG vG lG W1 :=
  ⟨hB, fun p hp => blk_kept (h.bx p hp) hk (fun a => h.pX _ a p hp rfl), h.pd, h.q, V_kept h.fW hk (fun k a b => h.xW k b a), Kd.S_nil _ _ _ _ _, S_kept h.fG hk (fun k a b => h.xG k b a), fun k a => Nat.lt_of_lt_of_le (h.uW k a) hk.1, fun _ a => a.elim, fun k a => Nat.lt_of_lt_of_le (h.uG k a) hk.1, fun _ a => a.elim, fun _ a => a.elim, h.gW, h.pW, fun _ a => a.elim, h.pG⟩
theorem markG (h : Fb d e w L okW vW lW okX vX lX okG vG lG W) (hB : Below w.heap.size w W1) (hk : Kept W W1 okG) {l : List α} (hS : Kd.S d e W1 w.heap.size (fun k => okG k ∨ W.heap.size ≤ k) vG l) : ∃ ok, Fb d e w L okW vW lW okX vX lX ok vG l W1 := by
  have hl : ∀ p ∈ L, p.1 < W.heap.size := fun p hp => blk_lt (h.bx p hp)
  refine ⟨fun k => (okG k ∨ W.heap.size ≤ k) ∧ k < W1.heap.size, hB, fun p hp => blk_kept (h.bx p hp) hk (fun a => h.pG _ a p hp rfl), h.pd, h.q, V_kept h.fW hk (fun k a b => h.gW k b a), S_kept h.fX hk (fun k a b => h.xG k a b), Kd.S_mono (Kd.S_bound hS) (fun k a => ⟨a.1, a.2.2.1⟩), fun k a => Nat.lt_of_lt_of_le (h.uW k a) hk.1, fun k a => Nat.lt_of_lt_of_le (h.uX k a) hk.1, fun k a => a.2, h.xW, fun k a b => ?_, fun k a b => ?_, h.pW, h.pX, fun k a p hp => ?_⟩
  · rcases b.1 with b | b
    · exact h.xG k a b
    · have := h.uX k a; omega
  · rcases a.1 with a | a
    · exact h.gW k a b
    · have := h.uW k b; omega
  · rcases a.1 with a | a
    · exact h.pG k a p hp
    · have := hl p hp; omega
end
end Fb
end Go.Proofs.YtpdpampmbdgofaaW.Pick
