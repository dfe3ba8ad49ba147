/- slices.Insert of one value into a row of slices that the caller owns: the four roads, and their join for any kind of one cell. Conditions: none. -/
import Derived.Shelf.Spec.SlicesInsertGrow
import Derived.Lib.OwnBridge
import Derived.Test.YtpdpampmbdgofaaProg
import Derived.Test.YtpdpampmbdgofaaTWords
import Derived.Test.YtpdpampmbdgofaaTApart
import Derived.Test.YtpdpampmbdgofaaQ
namespace Go.Proofs.YtpdpampmbdgofaaW.PrintWords
open Go.RowKit
theorem pS {α : Type} {d : Kd α} {e base : Nat} {ok : Nat → Prop} {v : Value} {xs : List α} {W W' : World} [m : Pv W' W] (h : Kd.S d e W base ok v xs) : Kd.S d e W' base ok v xs := Kd.S_below h m.out
end Go.Proofs.YtpdpampmbdgofaaW.PrintWords
namespace Go.Proofs.YtpdpampmbdgofaaW.Insert
open Go.RowKit Go.Lib Go.Shelf Go.Proofs.YtpdpampmbdgofaaW.PrintWords
set_option linter.unusedVariables false
set_option linter.unusedSimpArgs false
theorem info : ∃ i, Try.prog.info? 25 = some i ∧ i.zero = some (.slice none 0 0) ∧ i.size = 1 ∧ i.bytes = 24 := info_parts (by kernel_rfl)
theorem hsz : (Try.prog.info? 25).map (·.size) = some 1 := by
  obtain ⟨i0, hi0, h0, h1, h2⟩ := info
  rw [hi0]; simp [h1]
set_option maxHeartbeats 4000000 in
set_option maxRecDepth 100000 in
theorem shift (b n c i vb : Nat) (cs : List Value) (x : Value) (w : World) (hi : i < n) (hroom : n + 1 ≤ c) (hc63 : c ≤ 9223372036854775807) (hvb : vb ≠ b)
    (hcl : cs.length = n) (hcs : ∀ j v, cs[j]? = some v → w.cell? ⟨b, j, none⟩ = some v) (hsp : ∀ j, j < n + 1 → (w.cell? ⟨b, j, none⟩).isSome = true) (hfz : ∀ j, j < n + 1 → w.frozen? ⟨b, j, none⟩ = false)
    (hvs : ∀ j v, [x][j]? = some v → w.cell? ⟨vb, j, none⟩ = some v) (h1c : ∀ v ∈ cs, v.oneCell' = true) (h1v : ∀ v ∈ [x], v.oneCell' = true)
    (tA tB : TypeId) (kA kB : Nat) (hsa : w.shape? vb = some (tA, kA)) (hsb : w.shape? b = some (tB, kB)) (hkB : kB ≠ 0) (hfa : w.frozen? ⟨vb, 0, none⟩ = false) (hfe : w.frozen? ⟨vb, kA, none⟩ = false) :
    Calls Try.prog 39 #[.slice (some ⟨b, 0, none⟩) n c, .int .i64 i, .slice (some ⟨vb, 0, none⟩) 1 1] w fun e w' =>
      e = .returned (.slice (some ⟨b, 0, none⟩) (n + 1) c) ∧ w' = (w.drew.setCells b (i + 1) (cs.drop i)).setCells b i [x] := by
  have hz2 : ¬ ((i : Int) = (n : Int)) := by omega
  have mixed : Try.prog.follows Departure.mixedOrders = true := by kernel_rfl
  have hov : ∀ lb cb, (callFunc 46 #[.slice (some ⟨vb, 0, none⟩) 1 1, .slice (some ⟨b, i + 1, none⟩) lb cb]).run Try.prog w = .ok (.value (.bool false)) w := fun lb cb => by
    rw [run_callFunc_extern Try.func46 (by kernel_rfl) (by kernel_rfl) (by kernel_rfl) (e := Extern.SlicesOverlaps.overlaps #[22, 22] #[4]) (by kernel_rfl),
      Lib.run_overlaps_apart w 22 4 25 Try.underlying22 1 Try.sizeOf25 ⟨vb, 0, none⟩ ⟨b, i + 1, none⟩ 1 1 lb cb hvb tA tB kA kB hsa hsb hkB hfa hfe]
    rfl
  have hdl : (cs.drop i).length = n - i := by rw [List.length_drop, hcl]
  have hw1 : IntKind.i64.wrap ((i : Int) + 1) = (i : Int) + 1 := by rw [IntKind.wrap_i64]; omega
  have hwn : IntKind.i64.wrap ((n : Int) + 1) = (n : Int) + 1 := by rw [IntKind.wrap_i64]; omega
  have hng : ¬ ((n : Int) + 1 > (c : Int)) := by omega
  have hb1 : (0 : Int) ≤ (i : Int) + 1 := by omega
  have hin : i ≤ n := by omega
  have htn : ((i : Int) + 1).toNat = i + 1 := by omega
  have hb2 : ¬ (c = i + 1) := by omega
  have hb3 : (i : Int) ≤ (n : Int) + 1 := by omega
  have hb4 : ¬ (c = i) := by omega
  have hcp1 : ∀ l1 l2 ty dc sc, l1 = n - i → l2 = n + 1 - i → (Builtin.copy_ #[22, 22] ty #[.slice (some ⟨b, i + 1, none⟩) l1 dc, .slice (some ⟨b, i, none⟩) l2 sc]).run Try.prog w.drew = .ok (goInt (cs.drop i).length) (w.drew.setCells b (i + 1) (cs.drop i)) := fun l1 l2 ty dc sc e1 e2 =>
    run_copy_cells w.drew _ _ ty 25 b (i + 1) l1 dc ⟨b, i, none⟩ l2 sc (cs.drop i) Try.underlying22 hsz (by rw [hdl, e1, e2]; simp only [Nat.min_def]; split <;> omega)
      (fun j v hj => by rw [Addr.add_lit]; exact hcs (i + j) v (by rwa [List.getElem?_drop] at hj))
      (fun j hj => hsp _ (by omega)) (fun j hj => hfz _ (by omega)) (fun v hv => h1c v (List.mem_of_mem_drop hv))
  obtain ⟨W1, hW1⟩ : ∃ W1, W1 = w.drew.setCells b (i + 1) (cs.drop i) := ⟨_, rfl⟩
  have hsp1 : ∀ k, k < n + 1 → (W1.cell? ⟨b, k, none⟩).isSome = true := fun k hk => by
    rw [hW1]
    exact isSome_setCells b (cs.drop i) (i + 1) w.drew (fun j hj => hsp _ (by rw [hdl] at hj; omega)) _ (hsp k hk)
  have hcp2 : ∀ (W : World), (∀ x, W.cell? x = W1.cell? x) → (∀ x, W.frozen? x = W1.frozen? x) → ∀ l1 ty dc, l1 = n + 1 - i → (Builtin.copy_ #[22, 22] ty #[.slice (some ⟨b, i, none⟩) l1 dc, .slice (some ⟨vb, 0, none⟩) 1 1]).run Try.prog W = .ok (goInt [x].length) (W.setCells b i [x]) := fun W hWc hWf l1 ty dc e1 =>
    run_copy_cells W _ _ ty 25 b i l1 dc ⟨vb, 0, none⟩ 1 1 [x] Try.underlying22 hsz (by rw [e1]; simp only [List.length_singleton, Nat.min_def]; split <;> omega)
      (fun j v hj => by
        rw [Addr.add_lit, hWc, hW1, World.cell?_setCells_out b _ _ _ _ (fun h _ => absurd h hvb), Nat.zero_add]
        exact hvs j v hj)
      (fun j hj => by rw [hWc]; exact hsp1 _ (by simp only [List.length_singleton] at hj; omega)) (fun j hj => by rw [hWf, hW1, World.frozen?_setCells]; exact hfz _ (by simp only [List.length_singleton] at hj; omega)) h1v
  rw [← hW1] at hcp1
  go_enter Try.func39, Try.ntmps39
  go_wp2_with (simp only [hov])
  go_region_law_o (refine step_copy_runI rfl _ _ 22 22 rfl _ _ (by simp [Act.eval, Act.put]) (by simp [Act.eval, Act.put]) (hcp1 _ _ _ _ _ (by omega) (by omega)) ?_)
  go_wp2_with (at_builtin; refine wpList_copy_runI _ rfl _ _ 22 22 rfl _ _ rfl rfl (hcp2 _ (fun _ => rfl) (fun _ => rfl) _ _ _ (by omega)) ?_)
  go_ret
  first | exact ⟨rfl, rfl⟩ | exact ⟨rfl, by rw [hW1]⟩
set_option maxHeartbeats 4000000 in
set_option maxRecDepth 100000 in
theorem end_room (b n c vb : Nat) (x : Value) (w : World) (hroom : n + 1 ≤ c) (hc63 : c ≤ 9223372036854775807)
    (hsp : ∀ j, j < 1 → (w.cell? ⟨b, 0 + n + j, none⟩).isSome = true) (hfz : ∀ j, j < 1 → w.frozen? ⟨b, 0 + n + j, none⟩ = false)
    (hvs : ∀ j v, [x][j]? = some v → w.cell? ⟨vb, 0 + j, none⟩ = some v) (h1v : ∀ v ∈ [x], v.oneCell' = true) :
    Calls Try.prog 39 #[.slice (some ⟨b, 0, none⟩) n c, .int .i64 n, .slice (some ⟨vb, 0, none⟩) 1 1] w fun e w' =>
      e = .returned (.slice (some ⟨b, 0, none⟩) (n + 1) c) ∧ w' = w.setCells b n [x] := by
  have mixed : Try.prog.follows Departure.mixedOrders = true := by kernel_rfl
  have hinf : (Try.prog.info? 25).map (fun i => (i.zero, i.size, i.bytes)) = some (some (.slice none 0 0), 1, 24) := by kernel_rfl
  have hsrc : Src Try.prog 1 22 (.slice (some ⟨vb, 0, none⟩) 1 1) 1 [x] w := Src.ofSlice w Try.underlying22 ⟨vb, 0, none⟩ 1 1 [x] (by simp) (fun j u hj => by rw [Addr.add_lit]; exact hvs j u hj) h1v
  go_enter Try.func39, Try.ntmps39
  go_wp2_with (at_builtin; refine wpList_append_room1 _ rfl _ _ 22 22 rfl 25 _ _ Try.underlying22 hinf b 0 n c rfl _ rfl 1 [x] hsrc hroom hsp hfz ?_)
  go_ret
  exact ⟨rfl, rfl⟩
set_option maxHeartbeats 4000000 in
set_option maxRecDepth 100000 in
theorem end_grow (base : Option Addr) (n c vb : Nat) (cs : List Value) (x : Value) (w : World) (hnc : n ≤ c) (hroom : c < n + 1) (hbig : (n + 1) * 24 ≤ 140737488355328)
    (hcl : cs.length = n) (hnil : base = none → n = 0)
    (hcs : ∀ a, base = some a → ∀ j v, cs[j]? = some v → w.cell? (a.add j) = some v)
    (hvs : ∀ j v, [x][j]? = some v → w.cell? ⟨vb, 0 + j, none⟩ = some v) (h1v : ∀ v ∈ [x], v.oneCell' = true) :
    Calls Try.prog 39 #[.slice base n c, .int .i64 n, .slice (some ⟨vb, 0, none⟩) 1 1] w fun e w' =>
      e = .returned (.slice (some ⟨w.heap.size, 0, none⟩) (n + 1) (grownCap w (n + 1) c 25)) ∧
      w' = w.drew.alloc (.cells ((cs ++ [x]).toArray ++ Builtin.zeroCells (Value.slice none 0 0).cells (grownCap w (n + 1) c 25 - (n + 1))) 25) := by
  have mixed : Try.prog.follows Departure.mixedOrders = true := by kernel_rfl
  obtain ⟨i0, hi0, hz0, hzs, hzb⟩ := info
  have hsrc : Src Try.prog i0.size 22 (.slice (some ⟨vb, 0, none⟩) 1 1) 1 [x] w := by
    rw [hzs]
    exact Src.ofSlice w Try.underlying22 ⟨vb, 0, none⟩ 1 1 [x] (by simp) (fun j u hj => by rw [Addr.add_lit]; exact hvs j u hj) h1v
  have hold : (Builtin.firstCells i0.size n (.slice base n c)).run Try.prog w.drew = .ok cs.toArray w.drew := by
    rw [hzs]
    cases base with
    | none =>
      have h0 := hnil rfl
      subst h0
      rw [List.length_eq_zero_iff.1 hcl]
      exact run_firstCells_none w.drew 1 0 0 c
    | some a => exact run_firstCells_some w.drew 1 n a n c cs (by omega) (fun j v hj => hcs a rfl j v hj)
  have hrun : ∀ ty, (Builtin.append_ #[22, 22] ty #[.slice base n c, .slice (some ⟨vb, 0, none⟩) 1 1]).run Try.prog w = _ := fun ty =>
    run_append_grow_src w 22 22 ty 25 i0 _ Try.underlying22 hi0 hz0 base n c cs hold _ 1 [x] hsrc hroom (by omega) (by rw [hzb]; exact growslice_fits hroom hbig)
  go_enter Try.func39, Try.ntmps39
  cases base with
  | none =>
    have h0 := hnil rfl
    subst h0
    go_wp2_with (at_builtin; refine Lib.wpList_append_run _ rfl _ _ _ _ rfl _ _ rfl rfl _ _ (hrun _) ?_)
    go_ret
    exact ⟨rfl, rfl⟩
  | some a =>
    obtain ⟨ab, ao, asp⟩ := a
    go_wp2_with (at_builtin; refine Lib.wpList_append_run _ rfl _ _ _ _ rfl _ _ rfl rfl _ _ (hrun _) ?_)
    all_goals (go_ret; exact ⟨rfl, rfl⟩)
set_option maxHeartbeats 4000000 in
set_option maxRecDepth 100000 in
theorem grow (b n c i vb : Nat) (cs : List Value) (x : Value) (w : World) (hi : i < n) (hnc : n ≤ c) (hroom : c < n + 1) (hbig : (n + 1) * 24 ≤ 140737488355328)
    (hcl : cs.length = n) (hcs : ∀ j v, cs[j]? = some v → w.cell? ⟨b, j, none⟩ = some v)
    (hvs : ∀ j v, [x][j]? = some v → w.cell? ⟨vb, j, none⟩ = some v) (h1c : ∀ v ∈ cs, v.oneCell' = true) (h1v : ∀ v ∈ [x], v.oneCell' = true) :
    Calls Try.prog 39 #[.slice (some ⟨b, 0, none⟩) n c, .int .i64 i, .slice (some ⟨vb, 0, none⟩) 1 1] w fun e w' =>
      e = .returned (.slice (some ⟨w.heap.size, 0, none⟩) (n + 1) (grownCap w (n + 1) c 25)) ∧
      w' = (((w.alloc (.cells ((cs.take i).toArray ++ Builtin.zeroCells (Value.slice none 0 0).cells (n + 1 - i) ++ Builtin.zeroCells (Value.slice none 0 0).cells (grownCap w (n + 1) c 25 - (n + 1))) 25)).drew.setCells w.heap.size i [x]).drew).setCells w.heap.size (i + 1) (cs.drop i) := by
  have mixed : Try.prog.follows Departure.mixedOrders = true := by kernel_rfl
  have hap : Try.prog.follows Departure.appendOfMake = true := by kernel_rfl
  obtain ⟨i0, hi0, hz0, hzs, hzb⟩ := info
  have hz2 : ¬ ((i : Int) = (n : Int)) := by omega
  have hz3 : (c : Int) < (n : Int) + 1 := by omega
  have hbw : b < w.heap.size := block_lt_of_cell (hcs 0 _ (List.getElem?_eq_getElem (by omega)))
  have hvw : vb < w.heap.size := block_lt_of_cell (hvs 0 x rfl)
  have hkk : (n : Int) + 1 - (i : Int) = ((n + 1 - i : Nat) : Int) := by omega
  have hik : i + (n + 1 - i) = n + 1 := by omega
  have hold : (Builtin.firstCells i0.size i (.slice (some ⟨b, 0, none⟩) i c)).run Try.prog w.drew = .ok (cs.take i).toArray w.drew := by
    rw [hzs]
    exact run_firstCells_some w.drew 1 i ⟨b, 0, none⟩ i c (cs.take i) (by rw [List.length_take]; omega) (fun j v hj => by
      rw [Addr.add_lit, Nat.zero_add]
      rw [List.getElem?_take] at hj
      split at hj
      · exact hcs j v hj
      · cases hj)
  have hrz : ∀ ty, (Builtin.append_ #[22, 3] ty #[.slice (some ⟨b, 0, none⟩) i c, .int .i64 ((n : Int) + 1 - (i : Int))]).run Try.prog w =
      .ok (.slice (some ⟨w.heap.size, 0, none⟩) (n + 1) (grownCap w (n + 1) c 25)) (w.drew.alloc (.cells ((cs.take i).toArray ++ Builtin.zeroCells (Value.slice none 0 0).cells (n + 1 - i) ++ Builtin.zeroCells (Value.slice none 0 0).cells (grownCap w (n + 1) c 25 - (n + 1))) 25)) := fun ty => by
    have h := Lib.run_append_grow_zeros w 22 3 ty 25 i0 _ .i64 .i64 Try.underlying22 Try.underlying3 hi0 hz0 (some ⟨b, 0, none⟩) i c (cs.take i) hold (n + 1 - i) (by omega) (by omega) (by omega) (by omega) (by rw [hzb]; omega) (by rw [hzb, hik]; exact growslice_fits hroom hbig)
    rw [hik] at h
    rw [hkk]
    exact h
  obtain ⟨G, hG⟩ : ∃ G, G = grownCap w (n + 1) c 25 := ⟨_, rfl⟩
  obtain ⟨ROW, hROW⟩ : ∃ ROW : Array Value, ROW = (cs.take i).toArray ++ Builtin.zeroCells (Value.slice none 0 0).cells (n + 1 - i) ++ Builtin.zeroCells (Value.slice none 0 0).cells (G - (n + 1)) := ⟨_, rfl⟩
  rw [← hG] at hrz ⊢
  rw [← hROW] at hrz ⊢
  have hRl : n + 1 ≤ ROW.size := by
    rw [hROW]
    simp [Builtin.zeroCells, Value.cells]
    omega
  obtain ⟨W1, hW1⟩ : ∃ W1, W1 = w.drew.alloc (.cells ROW 25) := ⟨_, rfl⟩
  rw [← hW1] at hrz
  have hN : ∀ j, j < n + 1 → (W1.cell? ⟨w.heap.size, j, none⟩).isSome = true := fun j hj => by
    rw [hW1, World.cell?_alloc_at (w := w.drew) ROW _ w.heap.size j rfl, Array.getElem?_eq_getElem (by omega)]; rfl
  have hNf : ∀ j, W1.frozen? ⟨w.heap.size, j, none⟩ = false := fun j => by rw [hW1]; exact World.frozen?_alloc_at (w := w.drew) ROW _ w.heap.size j rfl
  have hOb : ∀ j v, w.cell? ⟨b, j, none⟩ = some v → W1.cell? ⟨b, j, none⟩ = some v := fun j v h => by rw [hW1, World.cell?_alloc_past (w := w.drew) _ b j hbw]; exact h
  have hOv : ∀ j v, w.cell? ⟨vb, j, none⟩ = some v → W1.cell? ⟨vb, j, none⟩ = some v := fun j v h => by rw [hW1, World.cell?_alloc_past (w := w.drew) _ vb j hvw]; exact h
  have hcpA : ∀ (W : World), (∀ x, W.cell? x = W1.cell? x) → (∀ x, W.frozen? x = W1.frozen? x) → ∀ l1 ty dc, l1 = n + 1 - i → (Builtin.copy_ #[22, 22] ty #[.slice (some ⟨w.heap.size, i, none⟩) l1 dc, .slice (some ⟨vb, 0, none⟩) 1 1]).run Try.prog W = .ok (goInt [x].length) (W.setCells w.heap.size i [x]) := fun W hWc hWf l1 ty dc e1 =>
    run_copy_cells W _ _ ty 25 w.heap.size i l1 dc ⟨vb, 0, none⟩ 1 1 [x] Try.underlying22 hsz (by rw [e1]; simp only [List.length_singleton, Nat.min_def]; split <;> omega)
      (fun j v hj => by rw [Addr.add_lit, hWc, Nat.zero_add]; exact hOv _ v (hvs j v hj))
      (fun j hj => by rw [hWc]; exact hN _ (by simp only [List.length_singleton] at hj; omega)) (fun j hj => by rw [hWf]; exact hNf _) h1v
  have hGn : n + 1 ≤ G := by rw [hG]; exact grownCap_ge w _ _ _
  have hG63 : G ≤ 9223372036854775807 := by
    have := grownCap_le_maxLen w (n + 1) c 25 (by unfold maxLen; omega)
    rw [← hG] at this
    unfold maxLen at this
    omega
  have hGi : ¬ (G = i) := by omega
  have hGim : ¬ (G = i + 1) := by omega
  have hci : ¬ (c = i) := by omega
  have hbN : b ≠ w.heap.size := by omega
  have hdl : (cs.drop i).length = n - i := by rw [List.length_drop, hcl]
  have hcpB : ∀ (W : World), (∀ y, W.cell? y = (W1.setCells w.heap.size i [x]).cell? y) → (∀ y, W.frozen? y = (W1.setCells w.heap.size i [x]).frozen? y) → ∀ l1 l2 ty dc sc, l1 = n - i → l2 = n - i → (Builtin.copy_ #[22, 22] ty #[.slice (some ⟨w.heap.size, i + 1, none⟩) l1 dc, .slice (some ⟨b, i, none⟩) l2 sc]).run Try.prog W = .ok (goInt (cs.drop i).length) (W.setCells w.heap.size (i + 1) (cs.drop i)) := fun W hWc hWf l1 l2 ty dc sc e1 e2 =>
    run_copy_cells W _ _ ty 25 w.heap.size (i + 1) l1 dc ⟨b, i, none⟩ l2 sc (cs.drop i) Try.underlying22 hsz (by rw [hdl, e1, e2]; simp only [Nat.min_def]; split <;> omega)
      (fun j v hj => by
        rw [Addr.add_lit, hWc, World.cell?_setCells_out _ _ _ _ _ (fun h _ => absurd h hbN)]
        exact hOb _ v (hcs (i + j) v (by rwa [List.getElem?_drop] at hj)))
      (fun j hj => by rw [hWc]; exact isSome_setCells w.heap.size [x] i W1 (fun t ht => hN _ (by simp only [List.length_singleton] at ht; omega)) _ (hN _ (by rw [hdl] at hj; omega)))
      (fun j hj => by rw [hWf, World.frozen?_setCells]; exact hNf _) (fun v hv => h1c v (List.mem_of_mem_drop hv))
  subst hW1
  have hE1 : ∀ x, ((w.alloc (.cells ROW 25)).drew).cell? x = (w.drew.alloc (.cells ROW 25)).cell? x := fun x => rfl
  have hE2 : ∀ x, ((w.alloc (.cells ROW 25)).drew).frozen? x = (w.drew.alloc (.cells ROW 25)).frozen? x := fun x => rfl
  have hF1 : ∀ y, (((w.alloc (.cells ROW 25)).drew.setCells w.heap.size i [x]).drew).cell? y = ((w.drew.alloc (.cells ROW 25)).setCells w.heap.size i [x]).cell? y := fun x => rfl
  have hF2 : ∀ y, (((w.alloc (.cells ROW 25)).drew.setCells w.heap.size i [x]).drew).frozen? y = ((w.drew.alloc (.cells ROW 25)).setCells w.heap.size i [x]).frozen? y := fun x => rfl
  have hw1 : IntKind.i64.wrap ((i : Int) + 1) = (i : Int) + 1 := by rw [IntKind.wrap_i64]; omega
  have hb1 : (0 : Int) ≤ (i : Int) + 1 := by omega
  have hin : i ≤ n := by omega
  have htn : ((i : Int) + 1).toNat = i + 1 := by omega
  have hb3 : (i : Int) ≤ (n : Int) := by omega
  clear hkk hik hold hROW hG hRl
  go_enter Try.func39, Try.ntmps39
  go_wp2_with (first
    | (at_builtin; refine Lib.wpList_append_run _ rfl _ _ _ _ rfl _ _ rfl rfl _ _ (hrz _) ?_)
    | (at_builtin; refine wpList_copy_runI _ rfl _ _ 22 22 rfl _ _ rfl rfl (hcpA _ hE1 hE2 _ _ _ (by omega)) ?_))
  go_region_law_o (refine step_copy_runI rfl _ _ 22 22 rfl (.slice (some ⟨w.heap.size, i + 1, none⟩) (n - i) (G - (i + 1))) (.slice (some ⟨b, i, none⟩) (n - i) (c - i)) (by simp [Act.eval, Act.put]) (by simp [Act.eval, Act.put]) (hcpB _ hF1 hF2 _ _ 3 (G - (i + 1)) (c - i) (by omega) (by omega)) ?_)
  go_wp2
  go_ret
  exact ⟨rfl, rfl⟩
theorem set_row {g t : Nat} : ∀ (vs : List Value) (o : Nat) (w : World) (L : List Value), w.heap[g]? = some (.cells L.toArray t (0, 0)) → o + vs.length ≤ L.length → (w.setCells g o vs).heap[g]? = some (.cells (L.take o ++ vs ++ L.drop (o + vs.length)).toArray t (0, 0))
  | [], o, w, L, h, _ => by simpa [World.setCells] using h
  | v :: r, o, w, L, h, hl => by
    have h1 := blk_put h o v (cs' := (L.set o v).toArray) (by simp)
    simp only [List.length_cons] at hl
    have h2 := set_row r (o + 1) _ (L.set o v) h1 (by rw [List.length_set]; omega)
    unfold World.setCells
    rw [h2]
    congr 3
    rw [List.set_eq_take_append_cons_drop, if_pos (by omega)]
    have e1 : (L.take o).length = o := by rw [List.length_take]; omega
    have e2 : (L.take o ++ v :: L.drop (o + 1)).take (o + 1) = L.take o ++ [v] := by
      rw [List.take_append, e1, show o + 1 - o = 1 by omega, List.take_of_length_le (by omega)]; rfl
    have e3 : (L.take o ++ v :: L.drop (o + 1)).drop (o + 1 + r.length) = L.drop (o + (r.length + 1)) := by
      rw [List.drop_append, e1, List.drop_eq_nil_of_le (by omega), List.nil_append, show o + 1 + r.length - o = r.length + 1 by omega, List.drop_succ_cons, List.drop_drop]
      congr 1; omega
    rw [e2, e3]; simp
theorem grown_set (g : Nat) : ∀ (vs : List Value) (o : Nat) (w : World), w.grownBy (w.setCells g o vs) (some g)
  | [], _, w => World.grownBy.refl w _
  | v :: r, o, w => by
    have h1 : w.grownBy (w.setCell ⟨g, o, none⟩ v) (some g) := ⟨rfl, rfl, rfl, by simp [World.setCell], fun k hk hne => Below.heap_setCell w _ v k (by intro e; exact hne (by rw [e]))⟩
    exact World.grownBy.trans h1 (grown_set g r (o + 1) _)
theorem grown_drew (w : World) (r : Option Nat) : w.grownBy w.drew r := ⟨rfl, rfl, rfl, Nat.le_refl _, fun _ _ _ => rfl⟩
theorem one_at {w : World} {vb : Nat} {x : Value} {t : Nat} (h : w.heap[vb]? = some (.cells #[x] t (0, 0))) : ∀ (j : Nat) (v : Value), [x][j]? = some v → w.cell? ⟨vb, j, none⟩ = some v := fun j v hj => by
  rw [blk_cell h]; simpa using hj
theorem own_new {w : World} {B g cap n : Nat} {L xs : List Value} (hB : B ≤ g) (h : w.heap[g]? = some (.cells L.toArray 25 (0, 0))) (hn : n ≤ cap) (hc : cap ≤ maxLen) (hL : L.length = cap) (ht : L.take n = xs) : w.ownsRow B 25 1 (.slice (some ⟨g, 0, none⟩) n cap) n xs := by
  refine ⟨?_, .inr ⟨g, cap, L.toArray, rfl, hB, h, hn, hc, by simp [hL], by simpa using ht⟩⟩
  rw [← ht, List.length_take, hL]; omega
/-- The row that the caller owns, with one value more: in place or anew. -/
theorem ins_own {w0 w : World} {B : Nat} {v : Value} {n : Nat} {inner : List Value} (ho : w.ownsRow B 25 1 v n inner) (h1c : ∀ u ∈ inner, u.oneCell' = true) (x : Value) (h1x : x.oneCell' = true) (vb : Nat) (hvb : w.heap[vb]? = some (.cells #[x] 25 (0, 0))) (hvne : some vb ≠ v.ownBlock)
    (hB : Below B w0 w) (hBw : B ≤ w.heap.size) (i : Nat) (hi : i ≤ n) (hl : (n + 1) * 24 ≤ 140737488355328) :
    Calls Try.prog 39 #[v, .int .i64 i, .slice (some ⟨vb, 0, none⟩) 1 1] w fun e w' => ∃ v1, e = .returned v1 ∧ w'.ownsRow B 25 1 v1 (n + 1) (inner.take i ++ x :: inner.drop i) ∧ Below B w0 w' ∧ w.grownBy w' v.ownBlock ∧ (v1.ownBlock = v.ownBlock ∨ ∃ b, v1.ownBlock = some b ∧ w.heap.size ≤ b) := by
  have hvs := one_at hvb
  have h1v : ∀ v ∈ [x], v.oneCell' = true := fun u hu => by rw [List.mem_singleton.1 hu]; exact h1x
  have hvs0 : ∀ (j : Nat) (v : Value), [x][j]? = some v → w.cell? ⟨vb, 0 + j, none⟩ = some v := fun j u hj => by rw [Nat.zero_add]; exact hvs j u hj
  obtain ⟨hlen, ho2⟩ := ho
  rw [Nat.mul_one] at hlen
  have hgcap : ∀ c, n + 1 ≤ grownCap w (n + 1) c 25 := fun c => grownCap_ge w _ _ _
  have hgmax : ∀ c, grownCap w (n + 1) c 25 ≤ maxLen := fun c => grownCap_le_maxLen w (n + 1) c 25 (by unfold maxLen; omega)
  rcases ho2 with ⟨rfl, rfl⟩ | ⟨g, cap, cur, rfl, hbg, hgg, hnc, hcm, hcs, htk⟩
  · have hi0 : i = 0 := by omega
    subst hi0
    have hin : inner = [] := List.length_eq_zero_iff.1 hlen
    subst hin
    refine (end_grow none 0 0 vb [] x w (Nat.le_refl _) (by omega) hl rfl (fun _ => rfl) (fun a ha => by cases ha) hvs0 h1v).mono ?_
    rintro e w' ⟨rfl, rfl⟩
    have hz := hgcap 0
    have hm := hgmax 0
    obtain ⟨G, hG⟩ : ∃ G, G = grownCap w (0 + 1) 0 25 := ⟨_, rfl⟩
    rw [← hG] at hz hm ⊢
    refine ⟨_, rfl, ?_, hB.grown (World.grownBy.trans (grown_drew w none) (World.grownBy_alloc _ _ _)) hBw (fun j hj => by cases hj), World.grownBy.trans (grown_drew w _) (World.grownBy_alloc _ _ _), .inr ⟨w.heap.size, rfl, Nat.le_refl _⟩⟩
    refine own_new (L := [x] ++ (Builtin.zeroCells (Value.slice none 0 0).cells (G - (0 + 1))).toList) hBw ?_ hz hm ?_ (by simp)
    · have := heap_alloc_new w.drew (.cells (([] ++ [x]).toArray ++ Builtin.zeroCells (Value.slice none 0 0).cells (G - (0 + 1))) 25)
      rw [show w.drew.heap.size = w.heap.size from rfl] at this
      rw [this]; simp
    · simp [Builtin.zeroCells, Value.cells]; omega
  · have hgw : g < w.heap.size := blk_lt hgg
    rw [Nat.mul_one] at hcs htk
    obtain ⟨L, hL⟩ : ∃ L, L = cur.toList := ⟨_, rfl⟩
    rw [← hL] at htk
    have hLl : L.length = cap := by rw [hL]; simpa using hcs
    have hgg' : w.heap[g]? = some (.cells L.toArray 25 (0, 0)) := by rw [hgg, hL]
    have hvbg : vb ≠ g := fun e => hvne (by rw [e]; rfl)
    have hcell : ∀ (j : Nat) (v : Value), inner[j]? = some v → w.cell? ⟨g, j, none⟩ = some v := fun j u hj => by
      rw [blk_cell hgg']
      rw [← htk] at hj
      rw [List.getElem?_take] at hj
      split at hj
      · simpa using hj
      · cases hj
    have hsp : ∀ j, j < cap → (w.cell? ⟨g, j, none⟩).isSome = true := fun j hj => by
      rw [blk_cell hgg']; simp; omega
    have hfz : ∀ j, w.frozen? ⟨g, j, none⟩ = false := fun j => blk_frozen hgg' j
    have hLd : L = inner ++ L.drop n := by rw [← htk, List.take_append_drop]
    have hmax : cap ≤ 9223372036854775807 := by unfold maxLen at hcm; omega
    by_cases hroom : n + 1 ≤ cap
    · rcases Nat.lt_or_ge i n with hin | hin
      · have hvbs : w.shape? vb = some (25, 1) := by unfold World.shape?; rw [hvb]; rfl
        have hgs : w.shape? g = some (25, cap) := by unfold World.shape?; rw [hgg']; simp [hLl]
        refine (shift g n cap i vb inner x w hin hroom hmax hvbg hlen hcell (fun j hj => hsp j (by omega)) (fun j _ => hfz j) hvs h1c h1v _ _ _ _ hvbs hgs (by omega) (blk_frozen hvb 0) (blk_frozen hvb 1)).mono ?_
        rintro e w' ⟨rfl, rfl⟩
        have hg1 : w.grownBy ((w.drew.setCells g (i + 1) (inner.drop i)).setCells g i [x]) (some g) := World.grownBy.trans (World.grownBy.trans (grown_drew w _) (grown_set g _ _ _)) (grown_set g _ _ _)
        refine ⟨_, rfl, ?_, hB.grown hg1 hBw (fun j hj => by cases hj; exact hbg), hg1, .inl rfl⟩
        have hd : (inner.drop i).length = n - i := by rw [List.length_drop, hlen]
        have r1 := set_row (inner.drop i) (i + 1) w.drew L hgg' (by rw [hd, hLl]; omega)
        have r2 := set_row [x] i _ _ r1 (by simp only [List.length_append, List.length_take, List.length_drop, List.length_singleton]; omega)
        refine own_new hbg r2 hroom hcm ?_ ?_
        · simp only [List.length_append, List.length_take, List.length_drop, List.length_singleton]; omega
        · have e1 : (L.take (i + 1) ++ inner.drop i ++ L.drop (i + 1 + (inner.drop i).length)).take i = inner.take i := by
            rw [List.append_assoc, List.take_append, List.take_take, show min i (i + 1) = i by omega, List.length_take, show i - min (i + 1) L.length = 0 by omega, List.take_zero, List.append_nil, ← htk, List.take_take, show min i n = i by omega]
          have e2 : (L.take (i + 1) ++ inner.drop i ++ L.drop (i + 1 + (inner.drop i).length)).drop (i + [x].length) = inner.drop i ++ L.drop (i + 1 + (inner.drop i).length) := by
            rw [List.append_assoc, List.length_singleton]
            exact List.drop_left' (by rw [List.length_take]; omega)
          rw [e1, e2, List.append_assoc]
          have e3 : (inner.take i).length = i := by rw [List.length_take]; omega
          rw [List.take_append, e3, List.take_of_length_le (by omega)]
          congr 1
          rw [show [x] ++ (inner.drop i ++ L.drop (i + 1 + (inner.drop i).length)) = (x :: inner.drop i) ++ L.drop (i + 1 + (inner.drop i).length) from rfl]
          exact List.take_left' (by rw [List.length_cons, hd]; omega)
      · have hin2 : i = n := by omega
        subst hin2
        refine (end_room g i cap vb x w hroom hmax (fun j hj => hsp _ (by omega)) (fun j _ => hfz _) hvs0 h1v).mono ?_
        rintro e w' ⟨rfl, rfl⟩
        have hg1 : w.grownBy (w.setCells g i [x]) (some g) := grown_set g _ _ _
        refine ⟨_, rfl, ?_, hB.grown hg1 hBw (fun j hj => by cases hj; exact hbg), hg1, .inl rfl⟩
        have r2 := set_row [x] i w L hgg' (by rw [List.length_singleton]; omega)
        refine own_new hbg r2 hroom hcm ?_ ?_
        · simp only [List.length_append, List.length_take, List.length_drop, List.length_singleton]; omega
        · rw [htk, List.take_of_length_le (show inner.length ≤ i by omega), List.drop_eq_nil_of_le (show inner.length ≤ i by omega)]
          exact List.take_left' (by rw [List.length_append, List.length_singleton]; omega)
    · rcases Nat.lt_or_ge i n with hin | hin
      · refine (grow g n cap i vb inner x w hin hnc (by omega) hl hlen hcell hvs h1c h1v).mono ?_
        rintro e w' ⟨rfl, rfl⟩
        have hz := hgcap cap
        obtain ⟨G, hG⟩ : ∃ G, G = grownCap w (n + 1) cap 25 := ⟨_, rfl⟩
        have hm := hgmax cap
        rw [← hG] at hz hm ⊢
        have hg1 : ∀ (o : Obj) (r : Option Nat), w.grownBy ((((w.alloc o).drew.setCells w.heap.size i [x]).drew).setCells w.heap.size (i + 1) (inner.drop i)) r := fun o r => by
          have h1 := World.grownBy.trans (World.grownBy.trans (World.grownBy_alloc w o (some w.heap.size)) (grown_drew _ _)) (grown_set w.heap.size [x] i _)
          have h2 := World.grownBy.trans (World.grownBy.trans h1 (grown_drew _ _)) (grown_set w.heap.size (inner.drop i) (i + 1) _)
          exact ⟨h2.os, h2.tape, h2.output, h2.size, fun k hk _ => h2.block k hk (by intro e; injection e with e; omega)⟩
        refine ⟨_, rfl, ?_, hB.grown (hg1 _ none) hBw (fun j hj => by cases hj), hg1 _ _, .inr ⟨w.heap.size, rfl, Nat.le_refl _⟩⟩
        have hd : (inner.drop i).length = n - i := by rw [List.length_drop, hlen]
        have e3 : (inner.take i).length = i := by rw [List.length_take]; omega
        obtain ⟨Z, hZ⟩ : ∃ Z : List Value, Z = (Builtin.zeroCells (Value.slice none 0 0).cells (n + 1 - i)).toList ++ (Builtin.zeroCells (Value.slice none 0 0).cells (G - (n + 1))).toList := ⟨_, rfl⟩
        have hZl : Z.length = G - i := by rw [hZ]; simp [Builtin.zeroCells, Value.cells]; omega
        have r0 : (w.alloc (.cells ((inner.take i).toArray ++ Builtin.zeroCells (Value.slice none 0 0).cells (n + 1 - i) ++ Builtin.zeroCells (Value.slice none 0 0).cells (G - (n + 1))) 25)).drew.heap[w.heap.size]? = some (.cells (inner.take i ++ Z).toArray 25 (0, 0)) := by
          have := heap_alloc_new w (.cells ((inner.take i).toArray ++ Builtin.zeroCells (Value.slice none 0 0).cells (n + 1 - i) ++ Builtin.zeroCells (Value.slice none 0 0).cells (G - (n + 1))) 25)
          rw [show (w.alloc (.cells ((inner.take i).toArray ++ Builtin.zeroCells (Value.slice none 0 0).cells (n + 1 - i) ++ Builtin.zeroCells (Value.slice none 0 0).cells (G - (n + 1))) 25)).drew.heap = (w.alloc (.cells ((inner.take i).toArray ++ Builtin.zeroCells (Value.slice none 0 0).cells (n + 1 - i) ++ Builtin.zeroCells (Value.slice none 0 0).cells (G - (n + 1))) 25)).heap from rfl, this, hZ]
          congr 2
          simp
        have r1 := set_row [x] i _ _ r0 (by simp only [List.length_append, List.length_singleton]; omega)
        have f1 : (inner.take i ++ Z).take i ++ [x] ++ (inner.take i ++ Z).drop (i + [x].length) = inner.take i ++ x :: Z.drop 1 := by
          rw [List.take_left' e3, List.length_singleton, List.drop_append, e3, List.drop_eq_nil_of_le (by omega), List.nil_append, show i + 1 - i = 1 by omega, List.append_assoc]; rfl
        rw [f1] at r1
        obtain ⟨X, hX⟩ : ∃ X, X = (w.alloc (.cells ((inner.take i).toArray ++ Builtin.zeroCells (Value.slice none 0 0).cells (n + 1 - i) ++ Builtin.zeroCells (Value.slice none 0 0).cells (G - (n + 1))) 25)).drew.setCells w.heap.size i [x] := ⟨_, rfl⟩
        rw [← hX] at r1 ⊢
        have r1d : X.drew.heap[w.heap.size]? = some (.cells (inner.take i ++ x :: Z.drop 1).toArray 25 (0, 0)) := r1
        have r2 := set_row (inner.drop i) (i + 1) _ _ r1d (by simp only [List.length_append, List.length_cons, List.length_drop]; omega)
        have f2 : (inner.take i ++ x :: Z.drop 1).take (i + 1) = inner.take i ++ [x] := by
          rw [List.take_append, e3, List.take_of_length_le (by omega), show i + 1 - i = 1 by omega]; rfl
        rw [f2] at r2
        refine own_new hBw r2 hz hm ?_ ?_
        · simp only [List.length_append, List.length_cons, List.length_nil, List.length_drop]; omega
        · have : inner.take i ++ [x] ++ inner.drop i = inner.take i ++ x :: inner.drop i := by simp
          rw [this]
          exact List.take_left' (by rw [List.length_append, List.length_cons, e3, hd]; omega)
      · have hin2 : i = n := by omega
        subst hin2
        refine (end_grow (some ⟨g, 0, none⟩) i cap vb inner x w hnc (by omega) hl hlen (fun e => by cases e) (fun a ha j u hj => by cases ha; rw [Addr.add_lit, Nat.zero_add]; exact hcell j u hj) hvs0 h1v).mono ?_
        rintro e w' ⟨rfl, rfl⟩
        have hz := hgcap cap
        obtain ⟨G, hG⟩ : ∃ G, G = grownCap w (i + 1) cap 25 := ⟨_, rfl⟩
        have hm := hgmax cap
        rw [← hG] at hz hm ⊢
        refine ⟨_, rfl, ?_, hB.grown (World.grownBy.trans (grown_drew w none) (World.grownBy_alloc _ _ _)) hBw (fun j hj => by cases hj), World.grownBy.trans (grown_drew w _) (World.grownBy_alloc _ _ _), .inr ⟨w.heap.size, rfl, Nat.le_refl _⟩⟩
        refine own_new (L := (inner ++ [x]) ++ (Builtin.zeroCells (Value.slice none 0 0).cells (G - (i + 1))).toList) hBw ?_ hz hm ?_ ?_
        · have := heap_alloc_new w.drew (.cells ((inner ++ [x]).toArray ++ Builtin.zeroCells (Value.slice none 0 0).cells (G - (i + 1))) 25)
          rw [show w.drew.heap.size = w.heap.size from rfl] at this
          rw [this]; congr 2; simp
        · simp [Builtin.zeroCells, Value.cells]; omega
        · rw [List.take_of_length_le (show inner.length ≤ i by omega), List.drop_eq_nil_of_le (show inner.length ≤ i by omega)]
          exact List.take_left' (by rw [List.length_append, List.length_singleton]; omega)
theorem take1 (l : List Value) (j : Nat) : (l.drop j).take 1 = l[j]?.toList := by rw [List.take_one, List.head?_drop]
open Classical in
/-- The row told as rows apart, with one row more. -/
theorem ins_S {α : Type} {d : Kd α} (hsz1 : d.sz = 1) {w0 w : World} {B : Nat} {ok okp : Nat → Prop} {v : Value} {xs : List α} {p : α} (HO : Kd.S d 25 w B (fun k => ok k ∧ ¬ okp k) v xs) (x : Value) (hp : d.M w B okp p [x]) (hokp : ∀ k, okp k → ok k ∧ some k ≠ v.ownBlock) (hfresh : ∀ k, w.heap.size ≤ k → ok k)
    (vb : Nat) (hvb : w.heap[vb]? = some (.cells #[x] 25 (0, 0))) (hvne : some vb ≠ v.ownBlock) (hB : Below B w0 w) (hBw : B ≤ w.heap.size) (i : Nat) (hi : i ≤ xs.length) (hl : (xs.length + 1) * 24 ≤ 140737488355328) :
    Calls Try.prog 39 #[v, .int .i64 i, .slice (some ⟨vb, 0, none⟩) 1 1] w fun e w' => ∃ v1, e = .returned v1 ∧ Kd.S d 25 w' B ok v1 (xs.take i ++ p :: xs.drop i) ∧ Below B w0 w' ∧ w.grownBy w' v.ownBlock := by
  obtain ⟨f, h0, inner, hown, hr⟩ := HO
  rw [List.length_zipIdx] at hown
  have hsz2 : (Kd.tag f d).sz = 1 := hsz1
  rw [hsz2] at hown hr
  have hil : inner.length = xs.length := by have := hr.1; rw [List.length_zipIdx] at this; omega
  have hcell : ∀ j q, xs[j]? = some q → ∃ u, inner[j]? = some u ∧ d.M w B (fun k => ((ok k ∧ ¬ okp k) ∧ some k ≠ v.ownBlock) ∧ f k = j) q [u] := fun j q hq => by
    have hj : j < inner.length := by rw [hil]; exact (List.getElem?_eq_some_iff.1 hq).1
    have h := hr.2 j (q, j) (Kd.zip_at hq)
    rw [Nat.mul_one, take1, List.getElem?_eq_getElem hj] at h
    exact ⟨_, List.getElem?_eq_getElem hj, h⟩
  have h1c : ∀ u ∈ inner, u.oneCell' = true := fun u hu => by
    obtain ⟨j, hj, rfl⟩ := List.mem_iff_getElem.1 hu
    obtain ⟨u', hu', hM⟩ := hcell j _ (List.getElem?_eq_getElem (by omega))
    rw [List.getElem?_eq_getElem hj] at hu'
    injection hu' with hu'
    exact d.K_one (d.K_of_M hM) _ (by rw [hu']; exact List.mem_cons_self ..)
  have h1x : x.oneCell' = true := d.K_one (d.K_of_M hp) x (List.mem_cons_self ..)
  refine (ins_own hown h1c x h1x vb hvb hvne hB hBw i hi hl).mono ?_
  rintro e w' ⟨v1, rfl, hown1, hb1, hg, hat⟩
  refine ⟨v1, rfl, ?_, hb1, hg⟩
  have hne : ∀ k, some k ≠ v.ownBlock → k < w.heap.size → some k ≠ v1.ownBlock := by
    intro k hk hlt
    rcases hat with hat | ⟨b, hb, hle⟩
    · rw [hat]; exact hk
    · rw [hb]
      intro he
      injection he with he
      omega
  have step : ∀ {q : α} {c : List Value} {o : Nat → Prop}, d.M w B o q c → (∀ k, o k → ok k ∧ some k ≠ v.ownBlock) → d.M w' B (fun k => o k ∧ some k ≠ v1.ownBlock) q c := by
    intro q c o hq ho
    have h1 := d.M_move (w1 := w') (fun k hk => hg.block k hk.2.2.1 (ho k hk.1).2) (d.M_bound hq)
    exact d.M_mono (fun k hk => ⟨hk.1, hne k (ho k hk.1).2 hk.2.2.1⟩) h1
  refine ⟨fun k => if okp k then i else if f k < i then f k else f k + 1, fun k hk => ?_, inner.take i ++ x :: inner.drop i, ?_, ?_⟩
  · rcases hat with hat | ⟨b, hb, hle⟩
    · exact (h0 k (hat ▸ hk)).1
    · rw [hb] at hk
      injection hk with hk
      exact hfresh k (by omega)
  · have : (xs.take i ++ p :: xs.drop i).length = xs.length + 1 := by simp only [List.length_append, List.length_cons, List.length_take, List.length_drop]; omega
    rw [List.length_zipIdx, this]
    exact hsz1 ▸ hown1
  · rw [show (Kd.tag (fun k => if okp k then i else if f k < i then f k else f k + 1) d).sz = 1 from hsz1]
    refine ⟨by simp only [List.length_zipIdx, List.length_append, List.length_cons, List.length_take, List.length_drop]; omega, fun j z hz => ?_⟩
    rw [List.getElem?_zipIdx, Nat.zero_add] at hz
    obtain ⟨q, hq, rfl⟩ := Option.map_eq_some_iff.1 hz
    rw [Nat.mul_one, take1]
    have e1 : (xs.take i).length = i := by rw [List.length_take]; omega
    have e2 : (inner.take i).length = i := by rw [List.length_take]; omega
    rcases Nat.lt_or_ge j i with hj | hj
    · rw [List.getElem?_append_left (by omega), List.getElem?_take, if_pos hj] at hq
      obtain ⟨u, hu, hM⟩ := hcell j q hq
      rw [List.getElem?_append_left (by omega), List.getElem?_take, if_pos hj, hu]
      refine d.M_mono (fun k hk => ?_) (step hM (fun k hk => ⟨hk.1.1.1, hk.1.2⟩))
      refine ⟨⟨hk.1.1.1.1, hk.2⟩, ?_⟩
      show (if okp k then i else if f k < i then f k else f k + 1) = j
      rw [if_neg hk.1.1.1.2, hk.1.2, if_pos hj]
    · rw [List.getElem?_append_right (by omega), e1] at hq
      rw [List.getElem?_append_right (by omega), e2]
      rcases Nat.eq_or_lt_of_le hj with rfl | hj2
      · rw [Nat.sub_self] at hq ⊢
        injection hq with hq
        subst hq
        refine d.M_mono (fun k hk => ?_) (step hp hokp)
        refine ⟨⟨(hokp k hk.1).1, hk.2⟩, ?_⟩
        show (if okp k then i else if f k < i then f k else f k + 1) = i
        rw [if_pos hk.1]
      · obtain ⟨m, rfl⟩ : ∃ m, j = i + m + 1 := ⟨j - i - 1, by omega⟩
        rw [show i + m + 1 - i = m + 1 by omega] at hq ⊢
        rw [List.getElem?_cons_succ, List.getElem?_drop] at hq ⊢
        obtain ⟨u, hu, hM⟩ := hcell (i + m) q hq
        rw [hu]
        refine d.M_mono (fun k hk => ?_) (step hM (fun k hk => ⟨hk.1.1.1, hk.1.2⟩))
        refine ⟨⟨hk.1.1.1.1, hk.2⟩, ?_⟩
        show (if okp k then i else if f k < i then f k else f k + 1) = i + m + 1
        rw [if_neg hk.1.1.1.2, hk.1.2, if_neg (by omega)]
end Go.Proofs.YtpdpampmbdgofaaW.Insert
