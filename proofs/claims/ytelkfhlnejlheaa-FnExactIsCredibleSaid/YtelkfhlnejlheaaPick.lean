/- A row of rows that the caller owns, opened: rows picked out of it by different indices are owned again. Lists of integers, compared. Conditions: none. -/
import Derived.Test.YtelkfhlnejlheaaTWords
import Derived.Test.YtelkfhlnejlheaaTApart
import Derived.Test.YtelkfhlnejlheaaTShare
import Derived.Test.YtelkfhlnejlheaaTMore
namespace Go.Proofs.YtelkfhlnejlheaaW.PrintWords
open Go.RowKit
theorem Kd.S_lit {P : Program} {ops : Array Oper} {rest : List Oper} {o : Oper} {a : Act} {Q : Exit → Act → World → Prop} {α : Type} (d : Kd α) {w0 W : World} (base e : Nat) (hgd : o.guard = none) {N : Tmp} (_hd : o.dst = some N) {xs : List α} {inner : List Value} {ok okp : Nat → Prop}
    (hrun : (execOp a.eval o).run P W = .ok (.value (.slice (some ⟨W.heap.size, 0, none⟩) xs.length xs.length)) (W.alloc (.cells inner.toArray e)))
    (hrep : Reps (d.M W base (fun _ => False)) d.sz xs inner) (_hok : ∀ k, okp k → ok k) (hfresh : ok W.heap.size) (HB : Below base w0 W) (hbase : base ≤ W.heap.size) (hm : xs.length ≤ 9223372036854775807)
    (h : ∀ v1 w1, Kd.S d e w1 base ok v1 xs → Below base w0 w1 → W.grownBy w1 none → (∃ b, v1.ownBlock = some b ∧ W.heap.size ≤ b) → wpList P ops Q rest (a.put o.dst v1) w1) : wpList P ops Q (o :: rest) a W :=
  Kd.R_lit (Kd.bare d) base e hgd _hd (ok := ok) (okp := ok) hrun hrep (fun _ hk => hk) hfresh HB hbase hm (fun v1 w1 hr => h v1 w1 (Kd.S_bare hr))
end Go.Proofs.YtelkfhlnejlheaaW.PrintWords
namespace Go.Proofs.YtelkfhlnejlheaaW.Pick
open Go.RowKit Go.Proofs.YtelkfhlnejlheaaW.PrintWords
set_option linter.unusedVariables false
theorem one_cut (inner : List Value) (j : Nat) (h : j < inner.length) : (inner.drop (j * 1)).take 1 = [inner[j]] := by
  rw [Nat.mul_one, List.drop_eq_getElem_cons h]; rfl
/-- What is known of the row: its cells, what each row in it reads, and that rows picked out of it are owned. -/
theorem S_open {α : Type} {d : Kd α} (hz : d.sz = 1) {e base : Nat} {ok : Nat → Prop} {w : World} {v : Value} {xs : List α} (h : Kd.S d e w base ok v xs) :
    ∃ inner : List Value, inner.length = xs.length ∧ w.ownsRow base e 1 v xs.length inner ∧ (∀ u ∈ inner, u.oneCell' = true) ∧
      (∀ (j : Nat) (x : α), xs[j]? = some x → ∃ c, inner[j]? = some c ∧ Kd.FK d w (fun k => ok k ∧ some k ≠ v.ownBlock) x [c]) ∧ (∀ k, v.ownBlock = some k → ok k) ∧
      ∀ (w1 : World) (base1 : Nat) (v1 : Value) (ok1 : Nat → Prop) (s : List Nat) (z : α), base1 ≤ base → s.Nodup → (∀ i ∈ s, i < xs.length) → w1.ownsRow base1 e 1 v1 s.length (s.map fun i => inner.getD i (.slice none 0 0)) →
        (∀ k, v1.ownBlock = some k → ok1 k) → (∀ k, ok k → some k ≠ v.ownBlock → base ≤ k → k < w.heap.size → w1.heap[k]? = w.heap[k]? ∧ ok1 k ∧ some k ≠ v1.ownBlock) → Kd.S d e w1 base1 ok1 v1 (s.map fun i => xs.getD i z) := by
  have h0 := (Kd.S_R h).1
  obtain ⟨f, h⟩ := Kd.S_bound h
  obtain ⟨_, inner, ho, hr⟩ := h
  have hl : xs.zipIdx.length = xs.length := List.length_zipIdx
  have hsz : (Kd.tag f d).sz = 1 := hz
  rw [hl, hsz] at ho
  rw [hsz] at hr
  have hil : inner.length = xs.length := by rw [hr.1, hl, Nat.mul_one]
  have hM : ∀ (j : Nat) (x : α), xs[j]? = some x → ∃ c, inner[j]? = some c ∧ d.M w base (fun k => ((ok k ∧ base ≤ k ∧ k < w.heap.size ∧ ∃ q, q ∈ e :: d.E ∧ ∃ cells, w.heap[k]? = some (.cells cells q (0, 0))) ∧ some k ≠ v.ownBlock) ∧ f k = j) x [c] := by
    intro j x hj
    have hjl : j < inner.length := by rw [hil]; exact (List.getElem?_eq_some_iff.1 hj).1
    have hm := hr.2 j (x, j) (Kd.zip_at hj)
    rw [one_cut inner j hjl] at hm
    exact ⟨inner[j], List.getElem?_eq_getElem hjl, hm⟩
  refine ⟨inner, hil, ho, fun u hu => ?_, fun j x hj => ?_, h0, ?_⟩
  · obtain ⟨j, hj, rfl⟩ := List.getElem_of_mem hu
    obtain ⟨c, hc, hm⟩ := hM j _ (List.getElem?_eq_getElem (by omega))
    rw [List.getElem?_eq_getElem hj] at hc
    injection hc with hc
    exact d.K_one (d.K_of_M hm) _ (by rw [hc]; exact List.mem_singleton.2 rfl)
  · obtain ⟨c, hc, hm⟩ := hM j x hj
    exact ⟨c, hc, Kd.FK_mono (Kd.FK_of_M hm) (fun k hk => ⟨hk.1.1.1, hk.1.2⟩)⟩
  · intro w1 base1 v1 ok1 s z hb hs hlt ho1 hk1 hfar
    refine ⟨fun k => s.idxOf (f k), hk1, s.map (fun i => inner.getD i (.slice none 0 0)), ?_, ?_, fun j p hj => ?_⟩
    · rw [List.length_zipIdx, List.length_map]
      show w1.ownsRow base1 e d.sz v1 s.length _
      rw [hz]
      exact ho1
    · rw [List.length_zipIdx, List.length_map, List.length_map]
      show s.length = s.length * d.sz
      rw [hz, Nat.mul_one]
    · rw [List.getElem?_zipIdx, Nat.zero_add] at hj
      obtain ⟨q, hq, rfl⟩ := Option.map_eq_some_iff.1 hj
      rw [List.getElem?_map] at hq
      obtain ⟨i, hi, rfl⟩ := Option.map_eq_some_iff.1 hq
      obtain ⟨hjs, hij⟩ := List.getElem?_eq_some_iff.1 hi
      have hix := hlt i (by rw [← hij]; exact List.getElem_mem hjs)
      obtain ⟨c, hc, hm⟩ := hM i _ (List.getElem?_eq_getElem hix)
      have hcut : ((s.map fun i => inner.getD i (.slice none 0 0)).drop (j * (Kd.tag (fun k => s.idxOf (f k)) d).sz)).take (Kd.tag (fun k => s.idxOf (f k)) d).sz = [c] := by
        rw [show (Kd.tag (fun k => s.idxOf (f k)) d).sz = 1 from hz, one_cut _ j (by rw [List.length_map]; exact hjs), List.getElem_map, hij]
        rw [List.getD_eq_getElem?_getD, hc]; rfl
      rw [hcut]
      show d.M w1 base1 (fun k => (ok1 k ∧ some k ≠ v1.ownBlock) ∧ s.idxOf (f k) = j) (xs.getD i z) [c]
      rw [List.getD_eq_getElem?_getD, List.getElem?_eq_getElem hix, Option.getD_some]
      refine d.M_lower hb (d.M_mono (fun k hk => ?_) (d.M_move (w1 := w1) (fun k hk => (hfar k hk.1.1.1 hk.1.2 hk.1.1.2.1 hk.1.1.2.2.1).1) hm))
      refine ⟨(hfar k hk.1.1.1 hk.1.2 hk.1.1.2.1 hk.1.1.2.2.1).2, ?_⟩
      rw [hk.2, ← hij]
      exact hs.idxOf_getElem j hjs
/-- How slices.Compare compares. -/
def cmpL : List Int → List Int → Int
  | [], [] => 0
  | [], _ :: _ => -1
  | _ :: _, [] => 1
  | a :: x, b :: y => if a < b then -1 else if a > b then 1 else cmpL x y
def ltL (x y : List Int) : Bool := decide (cmpL x y < 0)
def leL (x y : List Int) : Bool := !ltL y x
theorem cmpL_range (x y : List Int) : cmpL x y = -1 ∨ cmpL x y = 0 ∨ cmpL x y = 1 := by
  induction x generalizing y with
  | nil => cases y <;> simp [cmpL]
  | cons a x ih =>
    cases y with
    | nil => simp [cmpL]
    | cons b y =>
      unfold cmpL
      split
      · simp
      · split
        · simp
        · exact ih y
theorem cmpL_neg (x y : List Int) : cmpL y x = - cmpL x y := by
  induction x generalizing y with
  | nil => cases y <;> simp [cmpL]
  | cons a x ih =>
    cases y with
    | nil => simp [cmpL]
    | cons b y =>
      rw [cmpL, cmpL, ih y]
      by_cases h1 : a < b
      · rw [if_neg (by omega), if_pos (by omega), if_pos h1]; rfl
      · by_cases h2 : a > b
        · rw [if_pos (by omega), if_neg h1, if_pos h2]
        · rw [if_neg (by omega), if_neg (by omega), if_neg h1, if_neg h2]
theorem cmpL_zero {x y : List Int} (h : cmpL x y = 0) : x = y := by
  induction x generalizing y with
  | nil => cases y with
    | nil => rfl
    | cons b y => simp [cmpL] at h
  | cons a x ih =>
    cases y with
    | nil => simp [cmpL] at h
    | cons b y =>
      rw [cmpL] at h
      by_cases h1 : a < b
      · rw [if_pos h1] at h; omega
      · by_cases h2 : a > b
        · rw [if_neg h1, if_pos h2] at h; omega
        · rw [if_neg h1, if_neg h2] at h
          rw [ih h, show a = b by omega]
theorem cmpL_trans {x y z : List Int} (h1 : cmpL x y ≤ 0) (h2 : cmpL y z ≤ 0) : cmpL x z ≤ 0 ∧ (cmpL x z = 0 → cmpL x y = 0 ∧ cmpL y z = 0) := by
  induction x generalizing y z with
  | nil =>
    cases z with
    | nil => cases y with
      | nil => simp [cmpL]
      | cons b y => simp [cmpL] at h2
    | cons c z => simp [cmpL]
  | cons a x ih =>
    cases y with
    | nil => simp [cmpL] at h1
    | cons b y =>
      cases z with
      | nil => simp [cmpL] at h2
      | cons c z =>
        rw [cmpL] at h1 h2
        rw [cmpL, cmpL, cmpL]
        by_cases a1 : a < b
        · have : a < c := by
            by_cases b1 : b < c
            · omega
            · by_cases b2 : b > c
              · rw [if_neg b1, if_pos b2] at h2; omega
              · omega
          rw [if_pos this]
          exact ⟨by omega, by omega⟩
        · by_cases a2 : a > b
          · rw [if_neg a1, if_pos a2] at h1; omega
          · have e : a = b := by omega
            subst e
            rw [if_neg a1, if_neg a2] at h1 ⊢
            by_cases b1 : a < c
            · rw [if_pos b1]; exact ⟨by omega, by omega⟩
            · by_cases b2 : a > c
              · rw [if_neg b1, if_pos b2] at h2; omega
              · rw [if_neg b1, if_neg b2] at h2
                rw [if_neg b1, if_neg b2, if_neg b1, if_neg b2]
                exact ih h1 h2
theorem ltL_irrefl (x : List Int) : ltL x x = false := by
  have := cmpL_neg x x
  simp [ltL]; omega
theorem ltL_trans {x y z : List Int} (h1 : ltL x y = true) (h2 : ltL y z = true) : ltL x z = true := by
  simp only [ltL, decide_eq_true_eq] at *
  have := cmpL_trans (x := x) (y := y) (z := z) (by omega) (by omega)
  have := this.2
  have := cmpL_range x z
  omega
theorem ltL_ntrans {x y z : List Int} (h1 : ltL x y = false) (h2 : ltL y z = false) : ltL x z = false := by
  simp only [ltL, decide_eq_false_iff_not] at *
  have e1 := cmpL_neg x y
  have e2 := cmpL_neg y z
  have e3 := cmpL_neg x z
  have := (cmpL_trans (x := z) (y := y) (z := x) (by omega) (by omega)).1
  omega
theorem leL_anti {x y : List Int} (h1 : leL x y = true) (h2 : leL y x = true) : x = y := by
  simp only [leL, ltL, Bool.not_eq_true', decide_eq_false_iff_not] at *
  have := cmpL_neg x y
  exact cmpL_zero (by omega)
theorem leL_trans (x y z : List Int) (h1 : leL x y = true) (h2 : leL y z = true) : leL x z = true := by
  simp only [leL, Bool.not_eq_true'] at *
  exact ltL_ntrans h2 h1
theorem leL_total (x y : List Int) : (leL x y || leL y x) = true := by
  simp only [leL, ltL, Bool.or_eq_true, Bool.not_eq_true', decide_eq_false_iff_not]
  have := cmpL_neg x y
  omega
/-- The rows, sorted. -/
def sortL (l : List (List Int)) : List (List Int) := l.mergeSort leL
theorem sortL_unique {l m : List (List Int)} (hp : m.Perm l) (hs : m.Pairwise fun x y => leL x y = true) : m = sortL l :=
  List.Perm.eq_of_pairwise (le := fun x y => leL x y = true) (fun _ _ _ _ h1 h2 => leL_anti h1 h2) hs (List.pairwise_mergeSort leL_trans leL_total l) (hp.trans (List.mergeSort_perm l leL).symm)
theorem S_kept {α : Type} {d : Kd α} {e base : Nat} {ok S : Nat → Prop} {W W2 : World} {v : Value} {xs : List α} (h : Kd.S d e W base ok v xs) (hk : Kept W W2 S) (hne : ∀ k, ok k → ¬ S k) : Kd.S d e W2 base ok v xs :=
  Kd.S_step h (fun k ho hlt => hk.2 k hlt (hne k ho))
theorem V_kept {α : Type} {d : Kd α} {e base : Nat} {ok S : Nat → Prop} {W W2 : World} {v : Value} {xs : List α} (h : Kd.V d e W base ok v xs) (hk : Kept W W2 S) (hne : ∀ k, ok k → ¬ S k) : Kd.V d e W2 base ok v xs :=
  Kd.V_map h (fun _ hf => Kd.F_step hf (fun k ho hlt => hk.2 k hlt (hne k ho)))
/-- What a law over results that are rows of rows holds at a time: two boxes; the reference's rows (read), the argument's and the program's rows (owned), their blocks apart. -/
structure Fs {α : Type} (d : Kd α) (e : Nat) (w : World) (g1 : Nat) (o1 : Obj) (g2 : Nat) (o2 : Obj) (okW : Nat → Prop) (vW : Value) (lW : List α) (okX : Nat → Prop) (vX : Value) (lX : List α) (okG : Nat → Prop) (vG : Value) (lG : List α) (W : World) : Prop where
  B : Below w.heap.size w W
  b1 : W.heap[g1]? = some o1
  b2 : W.heap[g2]? = some o2
  fW : Kd.V d e W 0 okW vW lW
  fX : Kd.S d e W w.heap.size okX vX lX
  fG : Kd.S d e W w.heap.size okG vG lG
  uW : ∀ k, okW k → k < W.heap.size
  uX : ∀ k, okX k → k < W.heap.size
  uG : ∀ k, okG k → k < W.heap.size
  xW : ∀ k, okX k → ¬ okW k
  xG : ∀ k, okX k → ¬ okG k
  gW : ∀ k, okG k → ¬ okW k
  p1 : ∀ k, okW k ∨ okX k ∨ okG k → k ≠ g1
  p2 : ∀ k, okW k ∨ okX k ∨ okG k → k ≠ g2
  q1 : w.heap.size ≤ g1
  q2 : w.heap.size ≤ g2
namespace Fs
section
variable {α : Type} {d : Kd α} {e : Nat} {w : World} {g1 g2 : Nat} {o1 o2 : Obj} {okW okX okG : Nat → Prop} {vW vX vG : Value} {lW lX lG : List α} {W W1 : World}
theorem start (d : Kd α) (e : Nat) {w W : World} {g : Nat} {o : Obj} (B : Below w.heap.size w W) (b : W.heap[g]? = some o) (q : w.heap.size ≤ g) : Fs d e w g o g o (fun _ => False) (.slice none 0 0) [] (fun _ => False) (.slice none 0 0) [] (fun _ => False) (.slice none 0 0) [] W :=
  ⟨B, b, b, Kd.V_nil _ _ _ _ _, Kd.S_nil _ _ _ _ _, Kd.S_nil _ _ _ _ _, fun _ h => h.elim, fun _ h => h.elim, fun _ h => h.elim, fun _ h => h.elim, fun _ h => h.elim, fun _ h => h.elim, fun _ h => by simp at h, fun _ h => by simp at h, q, q⟩
theorem kept (h : Fs d e w g1 o1 g2 o2 okW vW lW okX vX lX okG vG lG W) {S : Nat → Prop} (hk : Kept W W1 S) (hB : Below w.heap.size w W1) (hW : ∀ k, okW k → ¬ S k) (hX : ∀ k, okX k → ¬ S k) (hG : ∀ k, okG k → ¬ S k) (h1 : ¬ S g1) (h2 : ¬ S g2) : Fs d e w g1 o1 g2 o2 okW vW lW okX vX lX okG vG lG W1 :=
  ⟨hB, blk_kept h.b1 hk h1, blk_kept h.b2 hk h2, V_kept h.fW hk hW, S_kept h.fX hk hX, S_kept h.fG hk hG, fun k a => Nat.lt_of_lt_of_le (h.uW k a) hk.1, fun k a => Nat.lt_of_lt_of_le (h.uX k a) hk.1, fun k a => Nat.lt_of_lt_of_le (h.uG k a) hk.1, h.xW, h.xG, h.gW, h.p1, h.p2, h.q1, h.q2⟩
theorem below (h : Fs d e w g1 o1 g2 o2 okW vW lW okX vX lX okG vG lG W) (hb : Below W.heap.size W W1) : Fs d e w g1 o1 g2 o2 okW vW lW okX vX lX okG vG lG W1 :=
  h.kept (Kept.of_below hb (fun _ => False)) (below_step h.B hb) (fun _ _ hn => hn) (fun _ _ hn => hn) (fun _ _ hn => hn) id id
/-- A new box. -/
theorem box (h : Fs d e w g1 o1 g2 o2 okW vW lW okX vX lX okG vG lG W) {g : Nat} {o : Obj} (hg : g = W.heap.size) (b : W1.heap[g]? = some o) (hb : Below W.heap.size W W1) : Fs d e w g1 o1 g o okW vW lW okX vX lX okG vG lG W1 ∧ g1 ≠ g := by
  have h2 := h.below hb
  have l1 := blk_lt h.b1
  refine ⟨⟨h2.B, h2.b1, b, h2.fW, h2.fX, h2.fG, h2.uW, h2.uX, h2.uG, h2.xW, h2.xG, h2.gW, h2.p1, fun k hk => ?_, h2.q1, by rw [hg]; exact h.B.size⟩, by omega⟩
  have : k < W.heap.size := hk.elim (h.uW k) (fun q => q.elim (h.uX k) (h.uG k))
  omega
/-- The second box, written. -/
theorem stored {cs : Array Value} {t : Nat} (h : Fs d e w g1 o1 g2 (.cells cs t (0, 0)) okW vW lW okX vX lX okG vG lG W) (hne : g1 ≠ g2) (i : Nat) (u : Value) : Fs d e w g1 o1 g2 (.cells (cs.setIfInBounds i u) t (0, 0)) okW vW lW okX vX lX okG vG lG (W.setCell ⟨g2, i, none⟩ u) := by
  have hk : Kept W (W.setCell ⟨g2, i, none⟩ u) (fun k => k = g2) := Kept.setCell (S := fun k => k = g2) (p := ⟨g2, i, none⟩) (Kept.refl W _) (.inl rfl) u
  have hB : Below w.heap.size w (W.setCell ⟨g2, i, none⟩ u) := below_set h.B h.q2
  exact ⟨hB, blk_kept h.b1 hk hne, blk_put h.b2 i u rfl, V_kept h.fW hk (fun k a => h.p2 k (.inl a)), S_kept h.fX hk (fun k a => h.p2 k (.inr (.inl a))), S_kept h.fG hk (fun k a => h.p2 k (.inr (.inr a))), fun k a => Nat.lt_of_lt_of_le (h.uW k a) hk.1, fun k a => Nat.lt_of_lt_of_le (h.uX k a) hk.1, fun k a => Nat.lt_of_lt_of_le (h.uG k a) hk.1, h.xW, h.xG, h.gW, h.p1, h.p2, h.q1, h.q2⟩
theorem newW (h : Fs d e w g1 o1 g2 o2 okW vW lW okX vX lX okG vG lG W) {v : Value} {l : List α} (hv : Kd.V d e W1 0 (fun k => W.heap.size ≤ k) v l) (hb : Below W.heap.size W W1) : ∃ ok, Fs d e w g1 o1 g2 o2 ok v l okX vX lX okG vG lG W1 := by
  have h2 := h.below hb
  have l1 := blk_lt h.b1
  have l2 := blk_lt h.b2
  refine ⟨fun k => W.heap.size ≤ k ∧ k < W1.heap.size, h2.B, h2.b1, h2.b2, Kd.V_map hv (fun _ hf => Kd.F_bound hf), h2.fX, h2.fG, fun k a => a.2, h2.uX, h2.uG, fun k a b => by have := h.uX k a; omega, h2.xG, fun k a b => by have := h.uG k a; omega, fun k a => ?_, fun k a => ?_, h2.q1, h2.q2⟩
  · rcases a with a | a
    · omega
    · exact h2.p1 k (.inr a)
  · rcases a with a | a
    · omega
    · exact h2.p2 k (.inr a)
theorem newX (h : Fs d e w g1 o1 g2 o2 okW vW lW okX vX lX okG vG lG W) {v : Value} {l : List α} (hv : Kd.S d e W1 W.heap.size (fun _ => True) v l) (hb : Below W.heap.size W W1) : ∃ ok, Fs d e w g1 o1 g2 o2 okW vW lW ok v l okG vG lG W1 := by
  have h2 := h.below hb
  have l1 := blk_lt h.b1
  have l2 := blk_lt h.b2
  refine ⟨fun k => W.heap.size ≤ k ∧ k < W1.heap.size, h2.B, h2.b1, h2.b2, h2.fW, Kd.S_lower (Kd.S_mono (Kd.S_bound hv) (fun k a => ⟨a.2.1, a.2.2.1⟩)) h.B.size, h2.fG, h2.uW, fun k a => a.2, h2.uG, fun k a b => by have := h.uW k b; omega, fun k a b => by have := h.uG k b; omega, h2.gW, fun k a => ?_, fun k a => ?_, h2.q1, h2.q2⟩
  · rcases a with a | a | a
    · exact h2.p1 k (.inl a)
    · omega
    · exact h2.p1 k (.inr (.inr a))
  · rcases a with a | a | a
    · exact h2.p2 k (.inl a)
    · omega
    · exact h2.p2 k (.inr (.inr a))
theorem newG (h : Fs d e w g1 o1 g2 o2 okW vW lW okX vX lX okG vG lG W) {v : Value} {l : List α} (hv : Kd.S d e W1 W.heap.size (fun _ => True) v l) (hb : Below W.heap.size W W1) : ∃ ok, Fs d e w g1 o1 g2 o2 okW vW lW okX vX lX ok v l W1 := by
  have h2 := h.below hb
  have l1 := blk_lt h.b1
  have l2 := blk_lt h.b2
  refine ⟨fun k => W.heap.size ≤ k ∧ k < W1.heap.size, h2.B, h2.b1, h2.b2, h2.fW, h2.fX, Kd.S_lower (Kd.S_mono (Kd.S_bound hv) (fun k a => ⟨a.2.1, a.2.2.1⟩)) h.B.size, h2.uW, h2.uX, fun k a => a.2, h2.xW, fun k a b => by have := h.uX k a; omega, fun k a b => by have := h.uW k b; omega, fun k a => ?_, fun k a => ?_, h2.q1, h2.q2⟩
  · rcases a with a | a | a
    · exact h2.p1 k (.inl a)
    · exact h2.p1 k (.inr (.inl a))
    · omega
  · rcases a with a | a | a
    · exact h2.p2 k (.inl a)
    · exact h2.p2 k (.inr (.inl a))
    · omega
/-- The argument's rows are marked: they are not told any more. -/
theorem markX (h : Fs d e w g1 o1 g2 o2 okW vW lW okX vX lX okG vG lG W) (hB : Below w.heap.size w W1) (hk : Kept W W1 okX) : Fs d e w g1 o1 g2 o2 okW vW lW (fun _ => False) (.slice none 0 0) [] okG vG lG W1 :=
  ⟨hB, blk_kept h.b1 hk (fun a => h.p1 _ (.inr (.inl a)) rfl), blk_kept h.b2 hk (fun a => h.p2 _ (.inr (.inl a)) rfl), V_kept h.fW hk (fun k a b => h.xW k b a), Kd.S_nil _ _ _ _ _, S_kept h.fG hk (fun k a b => h.xG k b a), fun k a => Nat.lt_of_lt_of_le (h.uW k a) hk.1, fun _ a => a.elim, fun k a => Nat.lt_of_lt_of_le (h.uG k a) hk.1, fun _ a => a.elim, fun _ a => a.elim, h.gW, fun k a => h.p1 k (a.elim .inl (fun b => b.elim (fun c => c.elim) (fun c => .inr (.inr c)))), fun k a => h.p2 k (a.elim .inl (fun b => b.elim (fun c => c.elim) (fun c => .inr (.inr c)))), h.q1, h.q2⟩
/-- The program's rows are marked. -/
theorem markG (h : Fs d e w g1 o1 g2 o2 okW vW lW okX vX lX okG vG lG W) (hB : Below w.heap.size w W1) (hk : Kept W W1 okG) {l : List α} (hS : Kd.S d e W1 w.heap.size (fun k => okG k ∨ W.heap.size ≤ k) vG l) : ∃ ok, Fs d e w g1 o1 g2 o2 okW vW lW okX vX lX ok vG l W1 := by
  have l1 := blk_lt h.b1
  have l2 := blk_lt h.b2
  refine ⟨fun k => (okG k ∨ W.heap.size ≤ k) ∧ k < W1.heap.size, hB, blk_kept h.b1 hk (fun a => h.p1 _ (.inr (.inr a)) rfl), blk_kept h.b2 hk (fun a => h.p2 _ (.inr (.inr a)) rfl), V_kept h.fW hk (fun k a b => h.gW k b a), S_kept h.fX hk (fun k a b => h.xG k a b), Kd.S_mono (Kd.S_bound hS) (fun k a => ⟨a.1, a.2.2.1⟩), fun k a => Nat.lt_of_lt_of_le (h.uW k a) hk.1, fun k a => Nat.lt_of_lt_of_le (h.uX k a) hk.1, fun k a => a.2, h.xW, fun k a b => ?_, fun k a b => ?_, fun k a => ?_, fun k a => ?_, h.q1, h.q2⟩
  · rcases b.1 with b | b
    · exact h.xG k a b
    · have := h.uX k a; omega
  · rcases a.1 with a | a
    · exact h.gW k a b
    · have := h.uW k b; omega
  · rcases a with a | a | ⟨a | a, _⟩
    · exact h.p1 k (.inl a)
    · exact h.p1 k (.inr (.inl a))
    · exact h.p1 k (.inr (.inr a))
    · omega
  · rcases a with a | a | ⟨a | a, _⟩
    · exact h.p2 k (.inl a)
    · exact h.p2 k (.inr (.inl a))
    · exact h.p2 k (.inr (.inr a))
    · omega
end
end Fs
end Go.Proofs.YtelkfhlnejlheaaW.Pick
