/- The program's FormatInt answers as the reference's does, for all whole numbers of 64 bits. Conditions: the library's tables read as the program's text lays them (tied by the card). (The tied card: the listed tables are what the program's text lays.) -/
import Derived.Test.YtdoackhmdcpfaaaDoorLawFnExactFormatInt
import Derived.Test.YtdoackhmdcpfaaaDoorCards
import Derived.Test.YtdoackhmdcpfaaaDoorTie
import Derived.SevenTiedAt
namespace Go.Proofs.YtdoackhmdcpfaaaDoor
open Go
theorem fnExactFormatIntCard_holds : Rows.FnExactFormatIntCardSaid :=
  Claim7.holds_tied_plain_at .later [] [.data, .data, .data] true (true, "388309a29d926f1b8c57cb5ba8b04a989e484853c6be87e913e295d509501665") false
    fnExactFormatInt_holds (fun _ h => by cases h) (by kernel_rfl) (fun _ h => by cases h) fnExactFormatInt_row_tie rfl ⟨rfl, rfl⟩ (by kernel_rfl) rfl
    (fun f fn hf hfn => by
      obtain rfl : f = 3 := Option.some.inj ((show Tryd.prog.funcNamed "loop.example/g03009/laws.FnExactFormatInt" = some 3 by kernel_rfl).symm.trans hf) |>.symm
      obtain rfl : fn = Tryd.f3 := (Option.some.inj (Tryd.func3.symm.trans hfn)).symm
      exact ⟨by kernel_rfl, fun j t ht => by
        rw [Tryd.params3] at ht
        have hm : t ∈ [3] := by simpa using Array.mem_of_getElem? ht
        have hall : ([3].all fun u => !Tryd.prog.wantsStandIn u) = true := by kernel_rfl
        exact (show Tryd.prog.wantsStandIn t = false by simpa using List.all_eq_true.1 hall t hm)⟩)
    (by kernel_rfl)
end Go.Proofs.YtdoackhmdcpfaaaDoor
