/-
  No cell of these rows narrows 'for every input' (looked for: loops, veiled, ifaces, maps, wideKeys, modest, calm, conditions, laid).
  DERIVED. THE GIVEN ROWS OF THIS SEAT. 5 by the template 'for every input the law returns true; each argument reads behind the call as it read before'; 0 by the template 'total and deterministic' (their statements: YtpdpampmbdgofaaTotals.lean).
  GIVEN WITH THE SEED: the statements are not yours to turn. If you find one false, say at which input.
  Laid BY PROGRAM, IN A SANDBOX (cutbox-rows.mjs): the forced cells as the released guide's own fill.sh prints them over the translation ef3623cdd8a46608… (all of the seat's roots in one cut). By AI agents, Wed Nov 11 2026. No macro, syntax, notation, axiom, sorry.
-/
import Derived.Test.YtpdpampmbdgofaaChecked
import GoSem.Claim
import GoSem.ClaimJoined
import GoSem.ClaimMapViews
import Derived.JoinedTies
import Derived.KernelRfl
namespace Go.Proofs.Ytpdpampmbdgofaa
/- THE CELL 'sum', in the pinned program and in every row, IS THE sha256 OF THE DUMP (.gsa) THAT YtpdpampmbdgofaaProg.lean LOADS. Nothing in Lean hashes anything: it is a label: what it is worth is what the hold of that sum in a sandbox is worth. -/
noncomputable def Try.pinned : Pinned := { name := "ytpdpampmbdgofaa", sum := "ef3623cdd8a466086110b4076d4cecd74ccc87d11a8b9d81ae60825105502310", checked := Try.checked }
namespace Rows
def none {H : Type} : Left H := { results := [], args := [] }

/-- 'laws.FnExactIsSet': WHATEVER THE INPUT: true; the input reads as it did. -/
def fnExactIsSetSpec : ChangeSpec := { name := "fnExactIsSet", fn := fun _ => fun
  | [d1, d2] => { results := [.lit (.bool true)], args := [d1, d2] }
  | _ => none }
def fnExactIsSetRow : OpenClaim := { program := "ytpdpampmbdgofaa", sum := "ef3623cdd8a466086110b4076d4cecd74ccc87d11a8b9d81ae60825105502310", func := "loop.example/g03009/laws.FnExactIsSet", spec := "fnExactIsSet", apart := false }
def FnExactIsSetSaid : Prop := fnExactIsSetRow.holds Try.pinned (OpenSpec.ofChange fnExactIsSetSpec)

/-- ITS FALSE NEIGHBOUR: 'it returns false'. Refute it at one input. -/
def fnExactIsSetWrong : ChangeSpec := { name := "fnExactIsSet", fn := fun _ => fun
  | [d1, d2] => { results := [.lit (.bool false)], args := [d1, d2] }
  | _ => none }
def FnExactIsSetWrongFalsely : Prop := fnExactIsSetRow.holds Try.pinned (OpenSpec.ofChange fnExactIsSetWrong)

/-- 'laws.FnExactDoesAttack': WHATEVER THE INPUT: true; the input reads as it did. -/
def fnExactDoesAttackSpec : ChangeSpec := { name := "fnExactDoesAttack", fn := fun _ => fun
  | [d1, d2, d3] => { results := [.lit (.bool true)], args := [d1, d2, d3] }
  | _ => none }
def fnExactDoesAttackRow : OpenClaim := { program := "ytpdpampmbdgofaa", sum := "ef3623cdd8a466086110b4076d4cecd74ccc87d11a8b9d81ae60825105502310", func := "loop.example/g03009/laws.FnExactDoesAttack", spec := "fnExactDoesAttack", apart := false }
def FnExactDoesAttackSaid : Prop := fnExactDoesAttackRow.holds Try.pinned (OpenSpec.ofChange fnExactDoesAttackSpec)

/-- ITS FALSE NEIGHBOUR: 'it returns false'. Refute it at one input. -/
def fnExactDoesAttackWrong : ChangeSpec := { name := "fnExactDoesAttack", fn := fun _ => fun
  | [d1, d2, d3] => { results := [.lit (.bool false)], args := [d1, d2, d3] }
  | _ => none }
def FnExactDoesAttackWrongFalsely : Prop := fnExactDoesAttackRow.holds Try.pinned (OpenSpec.ofChange fnExactDoesAttackWrong)

/-- 'laws.FnExactAttackersOf': WHATEVER THE INPUT: true; the input reads as it did. -/
def fnExactAttackersOfSpec : ChangeSpec := { name := "fnExactAttackersOf", fn := fun _ => fun
  | [d1, d2] => { results := [.lit (.bool true)], args := [d1, d2] }
  | _ => none }
def fnExactAttackersOfRow : OpenClaim := { program := "ytpdpampmbdgofaa", sum := "ef3623cdd8a466086110b4076d4cecd74ccc87d11a8b9d81ae60825105502310", func := "loop.example/g03009/laws.FnExactAttackersOf", spec := "fnExactAttackersOf", apart := false }
def FnExactAttackersOfSaid : Prop := fnExactAttackersOfRow.holds Try.pinned (OpenSpec.ofChange fnExactAttackersOfSpec)

/-- ITS FALSE NEIGHBOUR: 'it returns false'. Refute it at one input. -/
def fnExactAttackersOfWrong : ChangeSpec := { name := "fnExactAttackersOf", fn := fun _ => fun
  | [d1, d2] => { results := [.lit (.bool false)], args := [d1, d2] }
  | _ => none }
def FnExactAttackersOfWrongFalsely : Prop := fnExactAttackersOfRow.holds Try.pinned (OpenSpec.ofChange fnExactAttackersOfWrong)

/-- 'laws.FnExactVictimsOf': WHATEVER THE INPUT: true; the input reads as it did. -/
def fnExactVictimsOfSpec : ChangeSpec := { name := "fnExactVictimsOf", fn := fun _ => fun
  | [d1, d2] => { results := [.lit (.bool true)], args := [d1, d2] }
  | _ => none }
def fnExactVictimsOfRow : OpenClaim := { program := "ytpdpampmbdgofaa", sum := "ef3623cdd8a466086110b4076d4cecd74ccc87d11a8b9d81ae60825105502310", func := "loop.example/g03009/laws.FnExactVictimsOf", spec := "fnExactVictimsOf", apart := false }
def FnExactVictimsOfSaid : Prop := fnExactVictimsOfRow.holds Try.pinned (OpenSpec.ofChange fnExactVictimsOfSpec)

/-- ITS FALSE NEIGHBOUR: 'it returns false'. Refute it at one input. -/
def fnExactVictimsOfWrong : ChangeSpec := { name := "fnExactVictimsOf", fn := fun _ => fun
  | [d1, d2] => { results := [.lit (.bool false)], args := [d1, d2] }
  | _ => none }
def FnExactVictimsOfWrongFalsely : Prop := fnExactVictimsOfRow.holds Try.pinned (OpenSpec.ofChange fnExactVictimsOfWrong)

/-- 'laws.FnExactAddAttack': WHATEVER THE INPUT: true; the input reads as it did. -/
def fnExactAddAttackSpec : ChangeSpec := { name := "fnExactAddAttack", fn := fun _ => fun
  | [d1, d2, d3] => { results := [.lit (.bool true)], args := [d1, d2, d3] }
  | _ => none }
def fnExactAddAttackRow : OpenClaim := { program := "ytpdpampmbdgofaa", sum := "ef3623cdd8a466086110b4076d4cecd74ccc87d11a8b9d81ae60825105502310", func := "loop.example/g03009/laws.FnExactAddAttack", spec := "fnExactAddAttack", inPlace := ["slices.overlaps[[]int]"], apart := false }
def FnExactAddAttackSaid : Prop := fnExactAddAttackRow.holds Try.pinned (OpenSpec.ofChange fnExactAddAttackSpec)

/-- ITS FALSE NEIGHBOUR: 'it returns false'. Refute it at one input. -/
def fnExactAddAttackWrong : ChangeSpec := { name := "fnExactAddAttack", fn := fun _ => fun
  | [d1, d2, d3] => { results := [.lit (.bool false)], args := [d1, d2, d3] }
  | _ => none }
def FnExactAddAttackWrongFalsely : Prop := fnExactAddAttackRow.holds Try.pinned (OpenSpec.ofChange fnExactAddAttackWrong)

/- THE SECOND FORM. 'bulk': how many values and letters a reading holds, each counted each time it is reached (what is shared counts as often as it is met; a slice's spare places count too). A statement '..UptoSaid' is the law's where the arguments, and the package variables that the reading takes, are together of bulk at most 1048576: NARROWER than '..Said'. Prove '..Said' where nothing that the law and all that it calls make is longer than what came in: it says more and counts as full. Else prove '..UptoSaid'. A law counts once. -/
mutual
def uptoBulk {H : Type} : DataW H → Nat
  | .lit (.string bytes) => bytes.length + 1
  | .lit _ => 1
  | .nil => 1
  | .ptr d => uptoBulk d + 1
  | .slice elems spare => uptoBulkAll elems + uptoBulkAll spare + 1
  | .agg parts => uptoBulkAll parts + 1
  | .iface _ d => uptoBulk d + 1
  | .map entries => uptoBulkEntries entries + 1
  | .held _ => 1
def uptoBulkAll {H : Type} : List (DataW H) → Nat
  | [] => 0
  | d :: r => uptoBulk d + uptoBulkAll r
def uptoBulkEntries {H : Type} : List (Lit × DataW H) → Nat
  | [] => 0
  | x :: r => uptoBulkEntry x + uptoBulkEntries r
def uptoBulkEntry {H : Type} : Lit × DataW H → Nat
  | (.string bytes, d) => bytes.length + uptoBulk d + 1
  | (_, d) => uptoBulk d + 1
 end
def uptoSmall : (H : Type) → List (DataW H) → Bool := fun _ ds => decide (uptoBulkAll ds ≤ 1048576)
def OpenSpec.upto (s : _root_.Go.ChangeSpec) : _root_.Go.OpenSpec := { _root_.Go.OpenSpec.ofChange s with cond := some uptoSmall }

/-- 'laws.FnExactIsSet', WHERE WHAT IT READS IS OF BULK AT MOST 1048576: true; the input reads as it did. -/
def fnExactIsSetUptoRow : OpenClaim := { program := "ytpdpampmbdgofaa", sum := "ef3623cdd8a466086110b4076d4cecd74ccc87d11a8b9d81ae60825105502310", func := "loop.example/g03009/laws.FnExactIsSet", spec := "fnExactIsSet", apart := false, narrowed := true }
def FnExactIsSetUptoSaid : Prop := fnExactIsSetUptoRow.holds Try.pinned (OpenSpec.upto fnExactIsSetSpec)

/-- 'laws.FnExactDoesAttack', WHERE WHAT IT READS IS OF BULK AT MOST 1048576: true; the input reads as it did. -/
def fnExactDoesAttackUptoRow : OpenClaim := { program := "ytpdpampmbdgofaa", sum := "ef3623cdd8a466086110b4076d4cecd74ccc87d11a8b9d81ae60825105502310", func := "loop.example/g03009/laws.FnExactDoesAttack", spec := "fnExactDoesAttack", apart := false, narrowed := true }
def FnExactDoesAttackUptoSaid : Prop := fnExactDoesAttackUptoRow.holds Try.pinned (OpenSpec.upto fnExactDoesAttackSpec)

/-- 'laws.FnExactAttackersOf', WHERE WHAT IT READS IS OF BULK AT MOST 1048576: true; the input reads as it did. -/
def fnExactAttackersOfUptoRow : OpenClaim := { program := "ytpdpampmbdgofaa", sum := "ef3623cdd8a466086110b4076d4cecd74ccc87d11a8b9d81ae60825105502310", func := "loop.example/g03009/laws.FnExactAttackersOf", spec := "fnExactAttackersOf", apart := false, narrowed := true }
def FnExactAttackersOfUptoSaid : Prop := fnExactAttackersOfUptoRow.holds Try.pinned (OpenSpec.upto fnExactAttackersOfSpec)

/-- 'laws.FnExactVictimsOf', WHERE WHAT IT READS IS OF BULK AT MOST 1048576: true; the input reads as it did. -/
def fnExactVictimsOfUptoRow : OpenClaim := { program := "ytpdpampmbdgofaa", sum := "ef3623cdd8a466086110b4076d4cecd74ccc87d11a8b9d81ae60825105502310", func := "loop.example/g03009/laws.FnExactVictimsOf", spec := "fnExactVictimsOf", apart := false, narrowed := true }
def FnExactVictimsOfUptoSaid : Prop := fnExactVictimsOfUptoRow.holds Try.pinned (OpenSpec.upto fnExactVictimsOfSpec)

/-- 'laws.FnExactAddAttack', WHERE WHAT IT READS IS OF BULK AT MOST 1048576: true; the input reads as it did. -/
def fnExactAddAttackUptoRow : OpenClaim := { program := "ytpdpampmbdgofaa", sum := "ef3623cdd8a466086110b4076d4cecd74ccc87d11a8b9d81ae60825105502310", func := "loop.example/g03009/laws.FnExactAddAttack", spec := "fnExactAddAttack", inPlace := ["slices.overlaps[[]int]"], apart := false, narrowed := true }
def FnExactAddAttackUptoSaid : Prop := fnExactAddAttackUptoRow.holds Try.pinned (OpenSpec.upto fnExactAddAttackSpec)

end Rows
end Go.Proofs.Ytpdpampmbdgofaa
