/- Rows picked one by one out of a row of rows that a call made. Conditions: none. -/
import Derived.Test.YtelkfhlnejlheaaPick
namespace Go.Proofs.YtelkfhlnejlheaaW.Pick
open Go.RowKit Go.Proofs.YtelkfhlnejlheaaW.PrintWords
set_option linter.unusedVariables false
theorem raw_flat {inner : List Value} {s : List Nat} {cs : List Value} {w : World} {base : Nat} {ok : Nat → Prop} (h : Reps ((Kd.raw 1).M w base ok) 1 (s.map fun i => [inner.getD i (.slice none 0 0)]) cs) : cs = s.map fun i => inner.getD i (.slice none 0 0) := by
  have hl : cs.length = s.length := by have := h.1; rwa [List.length_map, Nat.mul_one] at this
  apply List.ext_getElem (by rw [hl, List.length_map])
  intro j h1 h2
  rw [List.length_map] at h2
  have h3 := (h.2 j [inner.getD s[j] (.slice none 0 0)] (by rw [List.getElem?_map, List.getElem?_eq_getElem h2]; rfl)).1
  rw [one_cut cs j h1] at h3
  injection h3 with h3
  rw [h3, List.getElem_map]
/-- The way: n0 is the size before the call that made the rows, Wc the world behind it. -/
structure Pk {α : Type} (d : Kd α) (e : Nat) (w Wc : World) (n0 g1 : Nat) (cs1 : Array Value) (t1 : Nat) (vS : Value) (lS : List α) (inner : List Value) (vO : Value) (s : List Nat) (W : World) : Prop where
  B : Below w.heap.size w W
  b1 : W.heap[g1]? = some (.cells cs1 t1 (0, 0))
  q1 : w.heap.size ≤ g1
  S : Kd.S d e W n0 (fun k => n0 ≤ k ∧ k < Wc.heap.size) vS lS
  K : ∀ k, n0 ≤ k → k < Wc.heap.size → W.heap[k]? = Wc.heap[k]?
  sz : Wc.heap.size ≤ W.heap.size
  O : (Kd.raw 1).R e W w.heap.size (fun _ => True) vO (s.map fun i => [inner.getD i (.slice none 0 0)])
  oB : ∀ b, vO.ownBlock = some b → b < n0 ∨ Wc.heap.size ≤ b
  nd : s.Nodup
  lt : ∀ i ∈ s, i < lS.length
namespace Pk
section
variable {α : Type} {d : Kd α} {e : Nat} {w Wc : World} {n0 g1 : Nat} {cs1 : Array Value} {t1 : Nat} {vS : Value} {lS : List α} {inner : List Value} {vO : Value} {s : List Nat} {W W1 : World}
theorem start (hz : d.sz = 1) (B : Below w.heap.size w W) (b1 : W.heap[g1]? = some (.cells cs1 t1 (0, 0))) (q1 : w.heap.size ≤ g1) (O : (Kd.raw 1).R e W w.heap.size (fun _ => True) vO []) (hS : Kd.S d e W1 W.heap.size (fun _ => True) vS lS) (hb : Below W.heap.size W W1) (z : α) :
    ∃ (n0 : Nat) (inner : List Value), Pk d e w W1 n0 g1 cs1 t1 vS lS inner vO [] W1 ∧ (∀ i, inner.getD i (.slice none 0 0) = .slice none 0 0 ∨ (inner.getD i (.slice none 0 0)).oneCell' = true) ∧
      (∀ (ad : Addr) (n c i : Nat), vS = .slice (some ad) n c → i < lS.length → W1.cell? (ad.add i) = some (inner.getD i (.slice none 0 0)) ∧ n0 ≤ ad.block ∧ ad.block < W1.heap.size) ∧
      ∀ (v : Value) (s' : List Nat) (W2 : World), Pk d e w W1 n0 g1 cs1 t1 vS lS inner v s' W2 → Kd.S d e W2 w.heap.size (fun _ => True) v (s'.map fun i => lS.getD i z) := by
  obtain ⟨inner, hil, ho, hone, hread, hk0, hpick⟩ := S_open hz hS
  have O1 := Kd.R_below O hb
  refine ⟨W.heap.size, inner, ⟨below_step B hb, blk_below b1 hb, q1, Kd.S_mono (Kd.S_bound hS) (fun k h => ⟨h.2.1, h.2.2.1⟩), fun k _ _ => rfl, Nat.le_refl _, by simpa using O1, fun b h => .inl (Kd.R_lt O b h), List.nodup_nil, fun i hi => by cases hi⟩, fun i => ?_, fun ad n c i hv hi => ?_, fun v s' W2 P => ?_⟩
  · rw [List.getD_eq_getElem?_getD]
    by_cases hi : i < inner.length
    · rw [List.getElem?_eq_getElem hi]; exact .inr (hone _ (List.getElem_mem hi))
    · rw [List.getElem?_eq_none (by omega)]; exact .inl rfl
  · have hg := Kd.S_base hS
    have hlt := Kd.S_lt hS
    obtain ⟨g, rfl⟩ : ∃ g, ad = ⟨g, 0, none⟩ := by
      subst hv
      exact Kd.R_head (Kd.S_R hS)
    have hown : vS.ownBlock = some g := by rw [hv]; simp [Value.ownBlock]
    have hi2 : i < inner.length := by omega
    have hc := ho.cells (g := g) hown i inner[i] (List.getElem?_eq_getElem hi2)
    refine ⟨?_, hg g hown, hlt g hown⟩
    rw [List.getD_eq_getElem?_getD, List.getElem?_eq_getElem hi2]
    exact hc
  · obtain ⟨h0, innerO, hown, hr⟩ := P.O
    have hsz : (Kd.raw 1).sz = 1 := rfl
    rw [List.length_map, hsz] at hown
    rw [hsz] at hr
    obtain rfl := raw_flat hr
    exact hpick W2 w.heap.size v (fun _ => True) s' z B.size P.nd P.lt hown (fun _ _ => trivial) (fun k _ _ h1 h2 => ⟨P.K k h1 h2, trivial, fun he => by have := P.oB k he.symm; omega⟩)
theorem below (P : Pk d e w Wc n0 g1 cs1 t1 vS lS inner vO s W) (hb : Below W.heap.size W W1) : Pk d e w Wc n0 g1 cs1 t1 vS lS inner vO s W1 :=
  ⟨below_step P.B hb, blk_below P.b1 hb, P.q1, Kd.S_below P.S hb, fun k h1 h2 => (hb.block k (Nat.lt_of_lt_of_le h2 P.sz)).trans (P.K k h1 h2), Nat.le_trans P.sz hb.size, Kd.R_below P.O hb, P.oB, P.nd, P.lt⟩
/-- The row of the caller's own, made behind the call. -/
theorem lit (P : Pk d e w Wc n0 g1 cs1 t1 vS lS inner vO [] W) (hb : Below W.heap.size W W1) {v1 : Value} (hO : (Kd.raw 1).R e W1 w.heap.size (fun _ => True) v1 []) (hn : ∀ b, v1.ownBlock = some b → W.heap.size ≤ b) : Pk d e w Wc n0 g1 cs1 t1 vS lS inner v1 [] W1 :=
  have Q := P.below hb
  ⟨Q.B, Q.b1, Q.q1, Q.S, Q.K, Q.sz, by simpa using hO, fun b h => .inr (Nat.le_trans P.sz (hn b h)), Q.nd, Q.lt⟩
/-- One row more. -/
theorem snoc (P : Pk d e w Wc n0 g1 cs1 t1 vS lS inner vO s W) {v1 : Value} {i : Nat} (ht : e ≠ t1) (hi : i < lS.length) (hs : i ∉ s) (hO : (Kd.raw 1).R e W1 w.heap.size (fun _ => True) v1 ((s.map fun i => [inner.getD i (.slice none 0 0)]) ++ [[inner.getD i (.slice none 0 0)]])) (hB : Below w.heap.size w W1) (hg : W.grownBy W1 vO.ownBlock) (hat : v1.ownBlock = vO.ownBlock ∨ ∃ b, v1.ownBlock = some b ∧ W.heap.size ≤ b) : Pk d e w Wc n0 g1 cs1 t1 vS lS inner v1 (s ++ [i]) W1 := by
  have hk : ∀ k, n0 ≤ k → k < Wc.heap.size → W1.heap[k]? = W.heap[k]? := fun k h1 h2 => hg.block k (Nat.lt_of_lt_of_le h2 P.sz) (fun he => by have := P.oB k he.symm; omega)
  refine ⟨hB, blk_grown P.b1 hg (Kd.R_ne P.O P.b1 ht), P.q1, Kd.S_step P.S (fun k h _ => hk k h.1 h.2), fun k h1 h2 => (hk k h1 h2).trans (P.K k h1 h2), Nat.le_trans P.sz hg.size, by rw [List.map_append]; exact hO, fun b hb => ?_, ?_, fun j hj => ?_⟩
  · rcases hat with hat | ⟨b', h1, h2⟩
    · exact P.oB b (by rw [← hat]; exact hb)
    · rw [h1] at hb
      injection hb with hb
      have := P.sz
      omega
  · rw [List.nodup_append]
    refine ⟨P.nd, by simp, fun a ha b hb he => ?_⟩
    rw [List.mem_singleton.1 hb] at he
    subst he
    exact hs ha
  · rcases List.mem_append.1 hj with hj | hj
    · exact P.lt j hj
    · rw [List.mem_singleton.1 hj]; exact hi
end
end Pk
end Go.Proofs.YtelkfhlnejlheaaW.Pick
