/- Integers in range are parsed from their decimal form, and CeilDiv and Mod meet their defining inequalities, for all inputs of the law. Conditions: the library's tables read as the program's text lays them (tied by the card). (The tied card: the listed tables are what the program's text lays.) -/
import Derived.Test.YtdoackhmdcpfaaaDoorLawFnIntegers
import Derived.Test.YtdoackhmdcpfaaaDoorCards
import Derived.Test.YtdoackhmdcpfaaaDoorTie
import Derived.SevenTiedAt
namespace Go.Proofs.YtdoackhmdcpfaaaDoor
open Go
theorem fnIntegersCard_holds : Rows.FnIntegersCardSaid :=
  Claim7.holds_tied_plain_at .later [] [.data, .data, .data] true (true, "388309a29d926f1b8c57cb5ba8b04a989e484853c6be87e913e295d509501665") false
    fnIntegers_holds (fun _ h => by cases h) (by kernel_rfl) (fun _ h => by cases h) fnIntegers_row_tie rfl ⟨rfl, rfl⟩ (by kernel_rfl) rfl
    (fun f fn hf hfn => by
      obtain rfl : f = 4 := Option.some.inj ((show Tryd.prog.funcNamed "loop.example/g03009/laws.FnIntegers" = some 4 by kernel_rfl).symm.trans hf) |>.symm
      obtain rfl : fn = Tryd.f4 := (Option.some.inj (Tryd.func4.symm.trans hfn)).symm
      exact ⟨by kernel_rfl, fun j t ht => by
        rw [Tryd.params4] at ht
        have hm : t ∈ [24] := by simpa using Array.mem_of_getElem? ht
        have hall : ([24].all fun u => !Tryd.prog.wantsStandIn u) = true := by kernel_rfl
        exact (show Tryd.prog.wantsStandIn t = false by simpa using List.all_eq_true.1 hall t hm)⟩)
    (by kernel_rfl)
end Go.Proofs.YtdoackhmdcpfaaaDoor
