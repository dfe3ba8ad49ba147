/-
  No cell of these rows narrows 'for every input' (looked for: loops, veiled, ifaces, maps, wideKeys, modest, calm, conditions, laid).
  DERIVED. THE GIVEN ROWS OF THIS SEAT. 17 by the template 'for every input the law returns true; each argument reads behind the call as it read before'; 0 by the template 'total and deterministic' (their statements: YtelkfhlnejlheaaTotals.lean).
  GIVEN WITH THE SEED: the statements are not yours to turn. If you find one false, say at which input.
  Laid BY PROGRAM, IN A SANDBOX (cutbox-rows.mjs): the forced cells as the released guide's own fill.sh prints them over the translation a10266945109bb8c… (all of the seat's roots in one cut). By AI agents, Wed Nov 11 2026. No macro, syntax, notation, axiom, sorry.
-/
import Derived.Test.YtelkfhlnejlheaaChecked
import GoSem.Claim
import GoSem.ClaimJoined
import GoSem.ClaimMapViews
import Derived.JoinedTies
import Derived.KernelRfl
namespace Go.Proofs.Ytelkfhlnejlheaa
/- THE CELL 'sum', in the pinned program and in every row, IS THE sha256 OF THE DUMP (.gsa) THAT YtelkfhlnejlheaaProg.lean LOADS. Nothing in Lean hashes anything: it is a label: what it is worth is what the hold of that sum in a sandbox is worth. -/
noncomputable def Try.pinned : Pinned := { name := "ytelkfhlnejlheaa", sum := "a10266945109bb8cda1f7a8fdc8eb7b0bcab64a9efaa6304c3b661950e1ad538", checked := Try.checked }
namespace Rows
def none {H : Type} : Left H := { results := [], args := [] }

/-- 'laws.FnExactHitBy': WHATEVER THE INPUT: true; the input reads as it did. -/
def fnExactHitBySpec : ChangeSpec := { name := "fnExactHitBy", fn := fun _ => fun
  | [d1, d2] => { results := [.lit (.bool true)], args := [d1, d2] }
  | _ => none }
def fnExactHitByRow : OpenClaim := { program := "ytelkfhlnejlheaa", sum := "a10266945109bb8cda1f7a8fdc8eb7b0bcab64a9efaa6304c3b661950e1ad538", func := "loop.example/g03009/laws.FnExactHitBy", spec := "fnExactHitBy", recurses := true, apart := false }
def FnExactHitBySaid : Prop := fnExactHitByRow.holds Try.pinned (OpenSpec.ofChange fnExactHitBySpec)

/-- ITS FALSE NEIGHBOUR: 'it returns false'. Refute it at one input. -/
def fnExactHitByWrong : ChangeSpec := { name := "fnExactHitBy", fn := fun _ => fun
  | [d1, d2] => { results := [.lit (.bool false)], args := [d1, d2] }
  | _ => none }
def FnExactHitByWrongFalsely : Prop := fnExactHitByRow.holds Try.pinned (OpenSpec.ofChange fnExactHitByWrong)

/-- 'laws.FnExactIsFree': WHATEVER THE INPUT: true; the input reads as it did. -/
def fnExactIsFreeSpec : ChangeSpec := { name := "fnExactIsFree", fn := fun _ => fun
  | [d1, d2] => { results := [.lit (.bool true)], args := [d1, d2] }
  | _ => none }
def fnExactIsFreeRow : OpenClaim := { program := "ytelkfhlnejlheaa", sum := "a10266945109bb8cda1f7a8fdc8eb7b0bcab64a9efaa6304c3b661950e1ad538", func := "loop.example/g03009/laws.FnExactIsFree", spec := "fnExactIsFree", recurses := true, apart := false }
def FnExactIsFreeSaid : Prop := fnExactIsFreeRow.holds Try.pinned (OpenSpec.ofChange fnExactIsFreeSpec)

/-- ITS FALSE NEIGHBOUR: 'it returns false'. Refute it at one input. -/
def fnExactIsFreeWrong : ChangeSpec := { name := "fnExactIsFree", fn := fun _ => fun
  | [d1, d2] => { results := [.lit (.bool false)], args := [d1, d2] }
  | _ => none }
def FnExactIsFreeWrongFalsely : Prop := fnExactIsFreeRow.holds Try.pinned (OpenSpec.ofChange fnExactIsFreeWrong)

/-- 'laws.FnExactIsStable': WHATEVER THE INPUT: true; the input reads as it did. -/
def fnExactIsStableSpec : ChangeSpec := { name := "fnExactIsStable", fn := fun _ => fun
  | [d1, d2] => { results := [.lit (.bool true)], args := [d1, d2] }
  | _ => none }
def fnExactIsStableRow : OpenClaim := { program := "ytelkfhlnejlheaa", sum := "a10266945109bb8cda1f7a8fdc8eb7b0bcab64a9efaa6304c3b661950e1ad538", func := "loop.example/g03009/laws.FnExactIsStable", spec := "fnExactIsStable", recurses := true, apart := false }
def FnExactIsStableSaid : Prop := fnExactIsStableRow.holds Try.pinned (OpenSpec.ofChange fnExactIsStableSpec)

/-- ITS FALSE NEIGHBOUR: 'it returns false'. Refute it at one input. -/
def fnExactIsStableWrong : ChangeSpec := { name := "fnExactIsStable", fn := fun _ => fun
  | [d1, d2] => { results := [.lit (.bool false)], args := [d1, d2] }
  | _ => none }
def FnExactIsStableWrongFalsely : Prop := fnExactIsStableRow.holds Try.pinned (OpenSpec.ofChange fnExactIsStableWrong)

/-- 'laws.FnExactDefends': WHATEVER THE INPUT: true; the input reads as it did. -/
def fnExactDefendsSpec : ChangeSpec := { name := "fnExactDefends", fn := fun _ => fun
  | [d1, d2, d3] => { results := [.lit (.bool true)], args := [d1, d2, d3] }
  | _ => none }
def fnExactDefendsRow : OpenClaim := { program := "ytelkfhlnejlheaa", sum := "a10266945109bb8cda1f7a8fdc8eb7b0bcab64a9efaa6304c3b661950e1ad538", func := "loop.example/g03009/laws.FnExactDefends", spec := "fnExactDefends", recurses := true, apart := false }
def FnExactDefendsSaid : Prop := fnExactDefendsRow.holds Try.pinned (OpenSpec.ofChange fnExactDefendsSpec)

/-- ITS FALSE NEIGHBOUR: 'it returns false'. Refute it at one input. -/
def fnExactDefendsWrong : ChangeSpec := { name := "fnExactDefends", fn := fun _ => fun
  | [d1, d2, d3] => { results := [.lit (.bool false)], args := [d1, d2, d3] }
  | _ => none }
def FnExactDefendsWrongFalsely : Prop := fnExactDefendsRow.holds Try.pinned (OpenSpec.ofChange fnExactDefendsWrong)

/-- 'laws.FnExactIsAdmissible': WHATEVER THE INPUT: true; the input reads as it did. -/
def fnExactIsAdmissibleSpec : ChangeSpec := { name := "fnExactIsAdmissible", fn := fun _ => fun
  | [d1, d2] => { results := [.lit (.bool true)], args := [d1, d2] }
  | _ => none }
def fnExactIsAdmissibleRow : OpenClaim := { program := "ytelkfhlnejlheaa", sum := "a10266945109bb8cda1f7a8fdc8eb7b0bcab64a9efaa6304c3b661950e1ad538", func := "loop.example/g03009/laws.FnExactIsAdmissible", spec := "fnExactIsAdmissible", recurses := true, apart := false }
def FnExactIsAdmissibleSaid : Prop := fnExactIsAdmissibleRow.holds Try.pinned (OpenSpec.ofChange fnExactIsAdmissibleSpec)

/-- ITS FALSE NEIGHBOUR: 'it returns false'. Refute it at one input. -/
def fnExactIsAdmissibleWrong : ChangeSpec := { name := "fnExactIsAdmissible", fn := fun _ => fun
  | [d1, d2] => { results := [.lit (.bool false)], args := [d1, d2] }
  | _ => none }
def FnExactIsAdmissibleWrongFalsely : Prop := fnExactIsAdmissibleRow.holds Try.pinned (OpenSpec.ofChange fnExactIsAdmissibleWrong)

/-- 'laws.FnExactDefendedBy': WHATEVER THE INPUT: true; the input reads as it did. -/
def fnExactDefendedBySpec : ChangeSpec := { name := "fnExactDefendedBy", fn := fun _ => fun
  | [d1, d2] => { results := [.lit (.bool true)], args := [d1, d2] }
  | _ => none }
def fnExactDefendedByRow : OpenClaim := { program := "ytelkfhlnejlheaa", sum := "a10266945109bb8cda1f7a8fdc8eb7b0bcab64a9efaa6304c3b661950e1ad538", func := "loop.example/g03009/laws.FnExactDefendedBy", spec := "fnExactDefendedBy", recurses := true, apart := false }
def FnExactDefendedBySaid : Prop := fnExactDefendedByRow.holds Try.pinned (OpenSpec.ofChange fnExactDefendedBySpec)

/-- ITS FALSE NEIGHBOUR: 'it returns false'. Refute it at one input. -/
def fnExactDefendedByWrong : ChangeSpec := { name := "fnExactDefendedBy", fn := fun _ => fun
  | [d1, d2] => { results := [.lit (.bool false)], args := [d1, d2] }
  | _ => none }
def FnExactDefendedByWrongFalsely : Prop := fnExactDefendedByRow.holds Try.pinned (OpenSpec.ofChange fnExactDefendedByWrong)

/-- 'laws.FnExactRoundOf': WHATEVER THE INPUT: true; the input reads as it did. -/
def fnExactRoundOfSpec : ChangeSpec := { name := "fnExactRoundOf", fn := fun _ => fun
  | [d1, d2] => { results := [.lit (.bool true)], args := [d1, d2] }
  | _ => none }
def fnExactRoundOfRow : OpenClaim := { program := "ytelkfhlnejlheaa", sum := "a10266945109bb8cda1f7a8fdc8eb7b0bcab64a9efaa6304c3b661950e1ad538", func := "loop.example/g03009/laws.FnExactRoundOf", spec := "fnExactRoundOf", unfollowed := true, recurses := true, apart := false }
def FnExactRoundOfSaid : Prop := fnExactRoundOfRow.holds Try.pinned (OpenSpec.ofChange fnExactRoundOfSpec)

/-- ITS FALSE NEIGHBOUR: 'it returns false'. Refute it at one input. -/
def fnExactRoundOfWrong : ChangeSpec := { name := "fnExactRoundOf", fn := fun _ => fun
  | [d1, d2] => { results := [.lit (.bool false)], args := [d1, d2] }
  | _ => none }
def FnExactRoundOfWrongFalsely : Prop := fnExactRoundOfRow.holds Try.pinned (OpenSpec.ofChange fnExactRoundOfWrong)

/-- 'laws.FnExactIsComplete': WHATEVER THE INPUT: true; the input reads as it did. -/
def fnExactIsCompleteSpec : ChangeSpec := { name := "fnExactIsComplete", fn := fun _ => fun
  | [d1, d2] => { results := [.lit (.bool true)], args := [d1, d2] }
  | _ => none }
def fnExactIsCompleteRow : OpenClaim := { program := "ytelkfhlnejlheaa", sum := "a10266945109bb8cda1f7a8fdc8eb7b0bcab64a9efaa6304c3b661950e1ad538", func := "loop.example/g03009/laws.FnExactIsComplete", spec := "fnExactIsComplete", recurses := true, apart := false }
def FnExactIsCompleteSaid : Prop := fnExactIsCompleteRow.holds Try.pinned (OpenSpec.ofChange fnExactIsCompleteSpec)

/-- ITS FALSE NEIGHBOUR: 'it returns false'. Refute it at one input. -/
def fnExactIsCompleteWrong : ChangeSpec := { name := "fnExactIsComplete", fn := fun _ => fun
  | [d1, d2] => { results := [.lit (.bool false)], args := [d1, d2] }
  | _ => none }
def FnExactIsCompleteWrongFalsely : Prop := fnExactIsCompleteRow.holds Try.pinned (OpenSpec.ofChange fnExactIsCompleteWrong)

/-- 'laws.FnExactGrounded': WHATEVER THE INPUT: true; the input reads as it did. -/
def fnExactGroundedSpec : ChangeSpec := { name := "fnExactGrounded", fn := fun _ => fun
  | [d] => { results := [.lit (.bool true)], args := [d] }
  | _ => none }
def fnExactGroundedRow : OpenClaim := { program := "ytelkfhlnejlheaa", sum := "a10266945109bb8cda1f7a8fdc8eb7b0bcab64a9efaa6304c3b661950e1ad538", func := "loop.example/g03009/laws.FnExactGrounded", spec := "fnExactGrounded", recurses := true, apart := false }
def FnExactGroundedSaid : Prop := fnExactGroundedRow.holds Try.pinned (OpenSpec.ofChange fnExactGroundedSpec)

/-- ITS FALSE NEIGHBOUR: 'it returns false'. Refute it at one input. -/
def fnExactGroundedWrong : ChangeSpec := { name := "fnExactGrounded", fn := fun _ => fun
  | [d] => { results := [.lit (.bool false)], args := [d] }
  | _ => none }
def FnExactGroundedWrongFalsely : Prop := fnExactGroundedRow.holds Try.pinned (OpenSpec.ofChange fnExactGroundedWrong)

/-- 'laws.FnGraphs': WHATEVER THE INPUT: true; the input reads as it did. -/
def fnGraphsSpec : ChangeSpec := { name := "fnGraphs", fn := fun _ => fun
  | [d] => { results := [.lit (.bool true)], args := [d] }
  | _ => none }
def fnGraphsRow : OpenClaim := { program := "ytelkfhlnejlheaa", sum := "a10266945109bb8cda1f7a8fdc8eb7b0bcab64a9efaa6304c3b661950e1ad538", func := "loop.example/g03009/laws.FnGraphs", spec := "fnGraphs", inPlace := ["slices.overlaps[[]int]"], recurses := true, apart := false }
def FnGraphsSaid : Prop := fnGraphsRow.holds Try.pinned (OpenSpec.ofChange fnGraphsSpec)

/-- ITS FALSE NEIGHBOUR: 'it returns false'. Refute it at one input. -/
def fnGraphsWrong : ChangeSpec := { name := "fnGraphs", fn := fun _ => fun
  | [d] => { results := [.lit (.bool false)], args := [d] }
  | _ => none }
def FnGraphsWrongFalsely : Prop := fnGraphsRow.holds Try.pinned (OpenSpec.ofChange fnGraphsWrong)

/-- 'laws.FnFree': WHATEVER THE INPUT: true; the input reads as it did. -/
def fnFreeSpec : ChangeSpec := { name := "fnFree", fn := fun _ => fun
  | [d] => { results := [.lit (.bool true)], args := [d] }
  | _ => none }
def fnFreeRow : OpenClaim := { program := "ytelkfhlnejlheaa", sum := "a10266945109bb8cda1f7a8fdc8eb7b0bcab64a9efaa6304c3b661950e1ad538", func := "loop.example/g03009/laws.FnFree", spec := "fnFree", recurses := true, apart := false }
def FnFreeSaid : Prop := fnFreeRow.holds Try.pinned (OpenSpec.ofChange fnFreeSpec)

/-- ITS FALSE NEIGHBOUR: 'it returns false'. Refute it at one input. -/
def fnFreeWrong : ChangeSpec := { name := "fnFree", fn := fun _ => fun
  | [d] => { results := [.lit (.bool false)], args := [d] }
  | _ => none }
def FnFreeWrongFalsely : Prop := fnFreeRow.holds Try.pinned (OpenSpec.ofChange fnFreeWrong)

/-- 'laws.FnExactOpenClaims': WHATEVER THE INPUT: true; the input reads as it did. -/
def fnExactOpenClaimsSpec : ChangeSpec := { name := "fnExactOpenClaims", fn := fun _ => fun
  | [d] => { results := [.lit (.bool true)], args := [d] }
  | _ => none }
def fnExactOpenClaimsRow : OpenClaim := { program := "ytelkfhlnejlheaa", sum := "a10266945109bb8cda1f7a8fdc8eb7b0bcab64a9efaa6304c3b661950e1ad538", func := "loop.example/g03009/laws.FnExactOpenClaims", spec := "fnExactOpenClaims", recurses := true, apart := false }
def FnExactOpenClaimsSaid : Prop := fnExactOpenClaimsRow.holds Try.pinned (OpenSpec.ofChange fnExactOpenClaimsSpec)

/-- ITS FALSE NEIGHBOUR: 'it returns false'. Refute it at one input. -/
def fnExactOpenClaimsWrong : ChangeSpec := { name := "fnExactOpenClaims", fn := fun _ => fun
  | [d] => { results := [.lit (.bool false)], args := [d] }
  | _ => none }
def FnExactOpenClaimsWrongFalsely : Prop := fnExactOpenClaimsRow.holds Try.pinned (OpenSpec.ofChange fnExactOpenClaimsWrong)

/-- 'laws.FnExactLabels': WHATEVER THE INPUT: true; the input reads as it did. -/
def fnExactLabelsSpec : ChangeSpec := { name := "fnExactLabels", fn := fun _ => fun
  | [d] => { results := [.lit (.bool true)], args := [d] }
  | _ => none }
def fnExactLabelsRow : OpenClaim := { program := "ytelkfhlnejlheaa", sum := "a10266945109bb8cda1f7a8fdc8eb7b0bcab64a9efaa6304c3b661950e1ad538", func := "loop.example/g03009/laws.FnExactLabels", spec := "fnExactLabels", recurses := true, apart := false }
def FnExactLabelsSaid : Prop := fnExactLabelsRow.holds Try.pinned (OpenSpec.ofChange fnExactLabelsSpec)

/-- ITS FALSE NEIGHBOUR: 'it returns false'. Refute it at one input. -/
def fnExactLabelsWrong : ChangeSpec := { name := "fnExactLabels", fn := fun _ => fun
  | [d] => { results := [.lit (.bool false)], args := [d] }
  | _ => none }
def FnExactLabelsWrongFalsely : Prop := fnExactLabelsRow.holds Try.pinned (OpenSpec.ofChange fnExactLabelsWrong)

/-- 'laws.FnGrounded': WHATEVER THE INPUT: true; the input reads as it did. -/
def fnGroundedSpec : ChangeSpec := { name := "fnGrounded", fn := fun _ => fun
  | [d] => { results := [.lit (.bool true)], args := [d] }
  | _ => none }
def fnGroundedRow : OpenClaim := { program := "ytelkfhlnejlheaa", sum := "a10266945109bb8cda1f7a8fdc8eb7b0bcab64a9efaa6304c3b661950e1ad538", func := "loop.example/g03009/laws.FnGrounded", spec := "fnGrounded", unfollowed := true, recurses := true, apart := false }
def FnGroundedSaid : Prop := fnGroundedRow.holds Try.pinned (OpenSpec.ofChange fnGroundedSpec)

/-- ITS FALSE NEIGHBOUR: 'it returns false'. Refute it at one input. -/
def fnGroundedWrong : ChangeSpec := { name := "fnGrounded", fn := fun _ => fun
  | [d] => { results := [.lit (.bool false)], args := [d] }
  | _ => none }
def FnGroundedWrongFalsely : Prop := fnGroundedRow.holds Try.pinned (OpenSpec.ofChange fnGroundedWrong)

/-- 'laws.FnExactAllComplete': WHATEVER THE INPUT: true; the input reads as it did. -/
def fnExactAllCompleteSpec : ChangeSpec := { name := "fnExactAllComplete", fn := fun _ => fun
  | [d] => { results := [.lit (.bool true)], args := [d] }
  | _ => none }
def fnExactAllCompleteRow : OpenClaim := { program := "ytelkfhlnejlheaa", sum := "a10266945109bb8cda1f7a8fdc8eb7b0bcab64a9efaa6304c3b661950e1ad538", func := "loop.example/g03009/laws.FnExactAllComplete", spec := "fnExactAllComplete", unfollowed := true, recurses := true, apart := false }
def FnExactAllCompleteSaid : Prop := fnExactAllCompleteRow.holds Try.pinned (OpenSpec.ofChange fnExactAllCompleteSpec)

/-- ITS FALSE NEIGHBOUR: 'it returns false'. Refute it at one input. -/
def fnExactAllCompleteWrong : ChangeSpec := { name := "fnExactAllComplete", fn := fun _ => fun
  | [d] => { results := [.lit (.bool false)], args := [d] }
  | _ => none }
def FnExactAllCompleteWrongFalsely : Prop := fnExactAllCompleteRow.holds Try.pinned (OpenSpec.ofChange fnExactAllCompleteWrong)

/-- 'laws.FnExactIsCredible': WHATEVER THE INPUT: true; the input reads as it did. -/
def fnExactIsCredibleSpec : ChangeSpec := { name := "fnExactIsCredible", fn := fun _ => fun
  | [d1, d2] => { results := [.lit (.bool true)], args := [d1, d2] }
  | _ => none }
def fnExactIsCredibleRow : OpenClaim := { program := "ytelkfhlnejlheaa", sum := "a10266945109bb8cda1f7a8fdc8eb7b0bcab64a9efaa6304c3b661950e1ad538", func := "loop.example/g03009/laws.FnExactIsCredible", spec := "fnExactIsCredible", unfollowed := true, recurses := true, apart := false }
def FnExactIsCredibleSaid : Prop := fnExactIsCredibleRow.holds Try.pinned (OpenSpec.ofChange fnExactIsCredibleSpec)

/-- ITS FALSE NEIGHBOUR: 'it returns false'. Refute it at one input. -/
def fnExactIsCredibleWrong : ChangeSpec := { name := "fnExactIsCredible", fn := fun _ => fun
  | [d1, d2] => { results := [.lit (.bool false)], args := [d1, d2] }
  | _ => none }
def FnExactIsCredibleWrongFalsely : Prop := fnExactIsCredibleRow.holds Try.pinned (OpenSpec.ofChange fnExactIsCredibleWrong)

/-- 'laws.FnExactStableSets': WHATEVER THE INPUT: true; the input reads as it did. -/
def fnExactStableSetsSpec : ChangeSpec := { name := "fnExactStableSets", fn := fun _ => fun
  | [d] => { results := [.lit (.bool true)], args := [d] }
  | _ => none }
def fnExactStableSetsRow : OpenClaim := { program := "ytelkfhlnejlheaa", sum := "a10266945109bb8cda1f7a8fdc8eb7b0bcab64a9efaa6304c3b661950e1ad538", func := "loop.example/g03009/laws.FnExactStableSets", spec := "fnExactStableSets", unfollowed := true, recurses := true, apart := false }
def FnExactStableSetsSaid : Prop := fnExactStableSetsRow.holds Try.pinned (OpenSpec.ofChange fnExactStableSetsSpec)

/-- ITS FALSE NEIGHBOUR: 'it returns false'. Refute it at one input. -/
def fnExactStableSetsWrong : ChangeSpec := { name := "fnExactStableSets", fn := fun _ => fun
  | [d] => { results := [.lit (.bool false)], args := [d] }
  | _ => none }
def FnExactStableSetsWrongFalsely : Prop := fnExactStableSetsRow.holds Try.pinned (OpenSpec.ofChange fnExactStableSetsWrong)

/- THE SECOND FORM. 'bulk': how many values and letters a reading holds, each counted each time it is reached (what is shared counts as often as it is met; a slice's spare places count too). A statement '..UptoSaid' is the law's where the arguments, and the package variables that the reading takes, are together of bulk at most 1048576: NARROWER than '..Said'. Prove '..Said' where nothing that the law and all that it calls make is longer than what came in: it says more and counts as full. Else prove '..UptoSaid'. A law counts once. -/
mutual
def uptoBulk {H : Type} : DataW H → Nat
  | .lit (.string bytes) => bytes.length + 1
  | .lit _ => 1
  | .nil => 1
  | .ptr d => uptoBulk d + 1
  | .slice elems spare => uptoBulkAll elems + uptoBulkAll spare + 1
  | .agg parts => uptoBulkAll parts + 1
  | .iface _ d => uptoBulk d + 1
  | .map entries => uptoBulkEntries entries + 1
  | .held _ => 1
def uptoBulkAll {H : Type} : List (DataW H) → Nat
  | [] => 0
  | d :: r => uptoBulk d + uptoBulkAll r
def uptoBulkEntries {H : Type} : List (Lit × DataW H) → Nat
  | [] => 0
  | x :: r => uptoBulkEntry x + uptoBulkEntries r
def uptoBulkEntry {H : Type} : Lit × DataW H → Nat
  | (.string bytes, d) => bytes.length + uptoBulk d + 1
  | (_, d) => uptoBulk d + 1
 end
def uptoSmall : (H : Type) → List (DataW H) → Bool := fun _ ds => decide (uptoBulkAll ds ≤ 1048576)
def OpenSpec.upto (s : _root_.Go.ChangeSpec) : _root_.Go.OpenSpec := { _root_.Go.OpenSpec.ofChange s with cond := some uptoSmall }

/-- 'laws.FnExactHitBy', WHERE WHAT IT READS IS OF BULK AT MOST 1048576: true; the input reads as it did. -/
def fnExactHitByUptoRow : OpenClaim := { program := "ytelkfhlnejlheaa", sum := "a10266945109bb8cda1f7a8fdc8eb7b0bcab64a9efaa6304c3b661950e1ad538", func := "loop.example/g03009/laws.FnExactHitBy", spec := "fnExactHitBy", recurses := true, apart := false, narrowed := true }
def FnExactHitByUptoSaid : Prop := fnExactHitByUptoRow.holds Try.pinned (OpenSpec.upto fnExactHitBySpec)

/-- 'laws.FnExactIsFree', WHERE WHAT IT READS IS OF BULK AT MOST 1048576: true; the input reads as it did. -/
def fnExactIsFreeUptoRow : OpenClaim := { program := "ytelkfhlnejlheaa", sum := "a10266945109bb8cda1f7a8fdc8eb7b0bcab64a9efaa6304c3b661950e1ad538", func := "loop.example/g03009/laws.FnExactIsFree", spec := "fnExactIsFree", recurses := true, apart := false, narrowed := true }
def FnExactIsFreeUptoSaid : Prop := fnExactIsFreeUptoRow.holds Try.pinned (OpenSpec.upto fnExactIsFreeSpec)

/-- 'laws.FnExactIsStable', WHERE WHAT IT READS IS OF BULK AT MOST 1048576: true; the input reads as it did. -/
def fnExactIsStableUptoRow : OpenClaim := { program := "ytelkfhlnejlheaa", sum := "a10266945109bb8cda1f7a8fdc8eb7b0bcab64a9efaa6304c3b661950e1ad538", func := "loop.example/g03009/laws.FnExactIsStable", spec := "fnExactIsStable", recurses := true, apart := false, narrowed := true }
def FnExactIsStableUptoSaid : Prop := fnExactIsStableUptoRow.holds Try.pinned (OpenSpec.upto fnExactIsStableSpec)

/-- 'laws.FnExactDefends', WHERE WHAT IT READS IS OF BULK AT MOST 1048576: true; the input reads as it did. -/
def fnExactDefendsUptoRow : OpenClaim := { program := "ytelkfhlnejlheaa", sum := "a10266945109bb8cda1f7a8fdc8eb7b0bcab64a9efaa6304c3b661950e1ad538", func := "loop.example/g03009/laws.FnExactDefends", spec := "fnExactDefends", recurses := true, apart := false, narrowed := true }
def FnExactDefendsUptoSaid : Prop := fnExactDefendsUptoRow.holds Try.pinned (OpenSpec.upto fnExactDefendsSpec)

/-- 'laws.FnExactIsAdmissible', WHERE WHAT IT READS IS OF BULK AT MOST 1048576: true; the input reads as it did. -/
def fnExactIsAdmissibleUptoRow : OpenClaim := { program := "ytelkfhlnejlheaa", sum := "a10266945109bb8cda1f7a8fdc8eb7b0bcab64a9efaa6304c3b661950e1ad538", func := "loop.example/g03009/laws.FnExactIsAdmissible", spec := "fnExactIsAdmissible", recurses := true, apart := false, narrowed := true }
def FnExactIsAdmissibleUptoSaid : Prop := fnExactIsAdmissibleUptoRow.holds Try.pinned (OpenSpec.upto fnExactIsAdmissibleSpec)

/-- 'laws.FnExactDefendedBy', WHERE WHAT IT READS IS OF BULK AT MOST 1048576: true; the input reads as it did. -/
def fnExactDefendedByUptoRow : OpenClaim := { program := "ytelkfhlnejlheaa", sum := "a10266945109bb8cda1f7a8fdc8eb7b0bcab64a9efaa6304c3b661950e1ad538", func := "loop.example/g03009/laws.FnExactDefendedBy", spec := "fnExactDefendedBy", recurses := true, apart := false, narrowed := true }
def FnExactDefendedByUptoSaid : Prop := fnExactDefendedByUptoRow.holds Try.pinned (OpenSpec.upto fnExactDefendedBySpec)

/-- 'laws.FnExactRoundOf', WHERE WHAT IT READS IS OF BULK AT MOST 1048576: true; the input reads as it did. -/
def fnExactRoundOfUptoRow : OpenClaim := { program := "ytelkfhlnejlheaa", sum := "a10266945109bb8cda1f7a8fdc8eb7b0bcab64a9efaa6304c3b661950e1ad538", func := "loop.example/g03009/laws.FnExactRoundOf", spec := "fnExactRoundOf", unfollowed := true, recurses := true, apart := false, narrowed := true }
def FnExactRoundOfUptoSaid : Prop := fnExactRoundOfUptoRow.holds Try.pinned (OpenSpec.upto fnExactRoundOfSpec)

/-- 'laws.FnExactIsComplete', WHERE WHAT IT READS IS OF BULK AT MOST 1048576: true; the input reads as it did. -/
def fnExactIsCompleteUptoRow : OpenClaim := { program := "ytelkfhlnejlheaa", sum := "a10266945109bb8cda1f7a8fdc8eb7b0bcab64a9efaa6304c3b661950e1ad538", func := "loop.example/g03009/laws.FnExactIsComplete", spec := "fnExactIsComplete", recurses := true, apart := false, narrowed := true }
def FnExactIsCompleteUptoSaid : Prop := fnExactIsCompleteUptoRow.holds Try.pinned (OpenSpec.upto fnExactIsCompleteSpec)

/-- 'laws.FnExactGrounded', WHERE WHAT IT READS IS OF BULK AT MOST 1048576: true; the input reads as it did. -/
def fnExactGroundedUptoRow : OpenClaim := { program := "ytelkfhlnejlheaa", sum := "a10266945109bb8cda1f7a8fdc8eb7b0bcab64a9efaa6304c3b661950e1ad538", func := "loop.example/g03009/laws.FnExactGrounded", spec := "fnExactGrounded", recurses := true, apart := false, narrowed := true }
def FnExactGroundedUptoSaid : Prop := fnExactGroundedUptoRow.holds Try.pinned (OpenSpec.upto fnExactGroundedSpec)

/-- 'laws.FnGraphs', WHERE WHAT IT READS IS OF BULK AT MOST 1048576: true; the input reads as it did. -/
def fnGraphsUptoRow : OpenClaim := { program := "ytelkfhlnejlheaa", sum := "a10266945109bb8cda1f7a8fdc8eb7b0bcab64a9efaa6304c3b661950e1ad538", func := "loop.example/g03009/laws.FnGraphs", spec := "fnGraphs", inPlace := ["slices.overlaps[[]int]"], recurses := true, apart := false, narrowed := true }
def FnGraphsUptoSaid : Prop := fnGraphsUptoRow.holds Try.pinned (OpenSpec.upto fnGraphsSpec)

/-- 'laws.FnFree', WHERE WHAT IT READS IS OF BULK AT MOST 1048576: true; the input reads as it did. -/
def fnFreeUptoRow : OpenClaim := { program := "ytelkfhlnejlheaa", sum := "a10266945109bb8cda1f7a8fdc8eb7b0bcab64a9efaa6304c3b661950e1ad538", func := "loop.example/g03009/laws.FnFree", spec := "fnFree", recurses := true, apart := false, narrowed := true }
def FnFreeUptoSaid : Prop := fnFreeUptoRow.holds Try.pinned (OpenSpec.upto fnFreeSpec)

/-- 'laws.FnExactOpenClaims', WHERE WHAT IT READS IS OF BULK AT MOST 1048576: true; the input reads as it did. -/
def fnExactOpenClaimsUptoRow : OpenClaim := { program := "ytelkfhlnejlheaa", sum := "a10266945109bb8cda1f7a8fdc8eb7b0bcab64a9efaa6304c3b661950e1ad538", func := "loop.example/g03009/laws.FnExactOpenClaims", spec := "fnExactOpenClaims", recurses := true, apart := false, narrowed := true }
def FnExactOpenClaimsUptoSaid : Prop := fnExactOpenClaimsUptoRow.holds Try.pinned (OpenSpec.upto fnExactOpenClaimsSpec)

/-- 'laws.FnExactLabels', WHERE WHAT IT READS IS OF BULK AT MOST 1048576: true; the input reads as it did. -/
def fnExactLabelsUptoRow : OpenClaim := { program := "ytelkfhlnejlheaa", sum := "a10266945109bb8cda1f7a8fdc8eb7b0bcab64a9efaa6304c3b661950e1ad538", func := "loop.example/g03009/laws.FnExactLabels", spec := "fnExactLabels", recurses := true, apart := false, narrowed := true }
def FnExactLabelsUptoSaid : Prop := fnExactLabelsUptoRow.holds Try.pinned (OpenSpec.upto fnExactLabelsSpec)

/-- 'laws.FnGrounded', WHERE WHAT IT READS IS OF BULK AT MOST 1048576: true; the input reads as it did. -/
def fnGroundedUptoRow : OpenClaim := { program := "ytelkfhlnejlheaa", sum := "a10266945109bb8cda1f7a8fdc8eb7b0bcab64a9efaa6304c3b661950e1ad538", func := "loop.example/g03009/laws.FnGrounded", spec := "fnGrounded", unfollowed := true, recurses := true, apart := false, narrowed := true }
def FnGroundedUptoSaid : Prop := fnGroundedUptoRow.holds Try.pinned (OpenSpec.upto fnGroundedSpec)

/-- 'laws.FnExactAllComplete', WHERE WHAT IT READS IS OF BULK AT MOST 1048576: true; the input reads as it did. -/
def fnExactAllCompleteUptoRow : OpenClaim := { program := "ytelkfhlnejlheaa", sum := "a10266945109bb8cda1f7a8fdc8eb7b0bcab64a9efaa6304c3b661950e1ad538", func := "loop.example/g03009/laws.FnExactAllComplete", spec := "fnExactAllComplete", unfollowed := true, recurses := true, apart := false, narrowed := true }
def FnExactAllCompleteUptoSaid : Prop := fnExactAllCompleteUptoRow.holds Try.pinned (OpenSpec.upto fnExactAllCompleteSpec)

/-- 'laws.FnExactIsCredible', WHERE WHAT IT READS IS OF BULK AT MOST 1048576: true; the input reads as it did. -/
def fnExactIsCredibleUptoRow : OpenClaim := { program := "ytelkfhlnejlheaa", sum := "a10266945109bb8cda1f7a8fdc8eb7b0bcab64a9efaa6304c3b661950e1ad538", func := "loop.example/g03009/laws.FnExactIsCredible", spec := "fnExactIsCredible", unfollowed := true, recurses := true, apart := false, narrowed := true }
def FnExactIsCredibleUptoSaid : Prop := fnExactIsCredibleUptoRow.holds Try.pinned (OpenSpec.upto fnExactIsCredibleSpec)

/-- 'laws.FnExactStableSets', WHERE WHAT IT READS IS OF BULK AT MOST 1048576: true; the input reads as it did. -/
def fnExactStableSetsUptoRow : OpenClaim := { program := "ytelkfhlnejlheaa", sum := "a10266945109bb8cda1f7a8fdc8eb7b0bcab64a9efaa6304c3b661950e1ad538", func := "loop.example/g03009/laws.FnExactStableSets", spec := "fnExactStableSets", unfollowed := true, recurses := true, apart := false, narrowed := true }
def FnExactStableSetsUptoSaid : Prop := fnExactStableSetsUptoRow.holds Try.pinned (OpenSpec.upto fnExactStableSetsSpec)

end Rows
end Go.Proofs.Ytelkfhlnejlheaa
