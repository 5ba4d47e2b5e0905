/-
  DERIVED. GIVEN WITH THE SEED: THE CARDS: each row of YtphkaogbcfdllaaGreatDoorRows.lean that lists a variable, with what it lists TIED to the program's text (the seventh form; the later family's looks); each row that meets fmt, with fmt's text TOLD by the authors' own Lean function (tested against real Go, not proved from fmt's source: count such statements apart). THE CARD IS WHAT COUNTS. Prove the row's statement (the work); the ties are given (YtphkaogbcfdllaaGreatDoorTie.lean); close each card by the builder's one call (the guide's Derived/Test/ToyasCard.lean, 'card_holds'). Laid BY PROGRAM, IN A SANDBOX (cutbox-door.mjs). By AI agents, Wed Nov 11 2026. No macro, syntax, notation, axiom, sorry.
-/
import Derived.Test.YtphkaogbcfdllaaGreatDoorRows
import GoSem.ClaimSeven
namespace Go.Proofs.YtphkaogbcfdllaaGreatDoor
namespace Rows

/-- THE TIED CARD OF 'haversacklaw18.VmRepeats'. -/
def vmRepeatsCard : Claim7 := { stood := { row := vmRepeatsRow, standIns := [], harness := (true, "b0db81f4c089e766ffed758fef5457b918bf2ffe4561cedd0cf0b14c21819f6c"), looks := true }, kinds := [], alts := [], laidByText := true, laidKinds := [.data, .data, .data, .data, .handle, .pinned], laidTests := true, laidLooks := .later }
def VmRepeatsCardSaid : Prop := Claim7.holds Tryz.pinned (.plain (OpenSpec.ofChange vmRepeatsSpec)) vmRepeatsCard

/-- THE TIED CARD OF 'haversacklaw18.VmIfs'. -/
def vmIfsCard : Claim7 := { stood := { row := vmIfsRow, standIns := [], harness := (true, "b0db81f4c089e766ffed758fef5457b918bf2ffe4561cedd0cf0b14c21819f6c"), looks := true }, kinds := [], alts := [], laidByText := true, laidKinds := [.data, .data, .data, .data, .handle, .pinned], laidTests := true, laidLooks := .later }
def VmIfsCardSaid : Prop := Claim7.holds Tryz.pinned (.plain (OpenSpec.ofChange vmIfsSpec)) vmIfsCard

/-- THE TIED CARD OF 'haversacklaw18.VmVars'. -/
def vmVarsCard : Claim7 := { stood := { row := vmVarsRow, standIns := [], harness := (true, "b0db81f4c089e766ffed758fef5457b918bf2ffe4561cedd0cf0b14c21819f6c"), looks := true }, kinds := [], alts := [], laidByText := true, laidKinds := [.data, .data, .data, .data, .handle, .pinned], laidTests := true, laidLooks := .later }
def VmVarsCardSaid : Prop := Claim7.holds Tryz.pinned (.plain (OpenSpec.ofChange vmVarsSpec)) vmVarsCard

/-- THE TIED CARD OF 'haversacklaw18.VmRuns'. -/
def vmRunsCard : Claim7 := { stood := { row := vmRunsRow, standIns := [], harness := (true, "b0db81f4c089e766ffed758fef5457b918bf2ffe4561cedd0cf0b14c21819f6c"), looks := true }, kinds := [], alts := [], laidByText := true, laidKinds := [.data, .data, .data, .data, .handle, .pinned], laidTests := true, laidLooks := .later }
def VmRunsCardSaid : Prop := Claim7.holds Tryz.pinned (.plain (OpenSpec.ofChange vmRunsSpec)) vmRunsCard

/-- THE TIED CARD OF 'haversacklaw18.VmFuel'. -/
def vmFuelCard : Claim7 := { stood := { row := vmFuelRow, standIns := [], harness := (true, "b0db81f4c089e766ffed758fef5457b918bf2ffe4561cedd0cf0b14c21819f6c"), looks := true }, kinds := [], alts := [], laidByText := true, laidKinds := [.data, .data, .data, .data, .handle, .pinned], laidTests := true, laidLooks := .later }
def VmFuelCardSaid : Prop := Claim7.holds Tryz.pinned (.plain (OpenSpec.ofChange vmFuelSpec)) vmFuelCard

/-- THE TIED CARD OF 'haversacklaw18.VmStays'. -/
def vmStaysCard : Claim7 := { stood := { row := vmStaysRow, standIns := [], harness := (true, "b0db81f4c089e766ffed758fef5457b918bf2ffe4561cedd0cf0b14c21819f6c"), looks := true }, kinds := [], alts := [], laidByText := true, laidKinds := [.data, .data, .data, .data, .handle, .pinned], laidTests := true, laidLooks := .later }
def VmStaysCardSaid : Prop := Claim7.holds Tryz.pinned (.plain (OpenSpec.ofChange vmStaysSpec)) vmStaysCard

/-- THE TIED CARD OF 'haversacklaw24.StageAlone'. -/
def stageAloneCard : Claim7 := { stood := { row := stageAloneRow, standIns := [], harness := (true, "b0db81f4c089e766ffed758fef5457b918bf2ffe4561cedd0cf0b14c21819f6c"), looks := true }, kinds := [], alts := [], laidByText := true, laidKinds := [.data, .data, .data, .data, .handle, .pinned], laidTests := true, laidLooks := .later }
def StageAloneCardSaid : Prop := Claim7.holds Tryz.pinned (.plain (OpenSpec.ofChange stageAloneSpec)) stageAloneCard

/-- THE TIED CARD OF 'haversacklaw24.StageNames'. -/
def stageNamesCard : Claim7 := { stood := { row := stageNamesRow, standIns := [], harness := (true, "b0db81f4c089e766ffed758fef5457b918bf2ffe4561cedd0cf0b14c21819f6c"), looks := true }, kinds := [], alts := [], laidByText := true, laidKinds := [.data, .data, .data, .data, .handle, .pinned], laidTests := true, laidLooks := .later }
def StageNamesCardSaid : Prop := Claim7.holds Tryz.pinned (.plain (OpenSpec.ofChange stageNamesSpec)) stageNamesCard

/-- THE TIED CARD OF 'haversacklaw24.StageBuilds'. -/
def stageBuildsCard : Claim7 := { stood := { row := stageBuildsRow, standIns := [], harness := (true, "b0db81f4c089e766ffed758fef5457b918bf2ffe4561cedd0cf0b14c21819f6c"), looks := true }, kinds := [], alts := [], laidByText := true, laidKinds := [.data, .data, .data, .data, .handle, .pinned], laidTests := true, laidLooks := .later }
def StageBuildsCardSaid : Prop := Claim7.holds Tryz.pinned (.plain (OpenSpec.ofChange stageBuildsSpec)) stageBuildsCard

/-- THE TIED CARD OF 'haversacklaw24.StageMany'. -/
def stageManyCard : Claim7 := { stood := { row := stageManyRow, standIns := [], harness := (true, "b0db81f4c089e766ffed758fef5457b918bf2ffe4561cedd0cf0b14c21819f6c"), looks := true }, kinds := [], alts := [], laidByText := true, laidKinds := [.data, .data, .data, .data, .handle, .pinned], laidTests := true, laidLooks := .later }
def StageManyCardSaid : Prop := Claim7.holds Tryz.pinned (.plain (OpenSpec.ofChange stageManySpec)) stageManyCard

/-- THE TIED CARD OF 'haversacklaw24.StageAll'. -/
def stageAllCard : Claim7 := { stood := { row := stageAllRow, standIns := [], harness := (true, "b0db81f4c089e766ffed758fef5457b918bf2ffe4561cedd0cf0b14c21819f6c"), looks := true }, kinds := [], alts := [], laidByText := true, laidKinds := [.data, .data, .data, .data, .handle, .pinned], laidTests := true, laidLooks := .later }
def StageAllCardSaid : Prop := Claim7.holds Tryz.pinned (.plain (OpenSpec.ofChange stageAllSpec)) stageAllCard

/-- THE SECOND FORM's CARD OF 'haversacklaw18.VmRepeats'. -/
def vmRepeatsUptoCard : Claim7 := { stood := { row := vmRepeatsUptoRow, standIns := [], harness := (true, "b0db81f4c089e766ffed758fef5457b918bf2ffe4561cedd0cf0b14c21819f6c"), looks := true }, kinds := [], alts := [], laidByText := true, laidKinds := [.data, .data, .data, .data, .handle, .pinned], laidTests := true, laidLooks := .later }
def VmRepeatsUptoCardSaid : Prop := Claim7.holds Tryz.pinned (.plain (OpenSpec.upto vmRepeatsSpec)) vmRepeatsUptoCard

/-- THE SECOND FORM's CARD OF 'haversacklaw18.VmIfs'. -/
def vmIfsUptoCard : Claim7 := { stood := { row := vmIfsUptoRow, standIns := [], harness := (true, "b0db81f4c089e766ffed758fef5457b918bf2ffe4561cedd0cf0b14c21819f6c"), looks := true }, kinds := [], alts := [], laidByText := true, laidKinds := [.data, .data, .data, .data, .handle, .pinned], laidTests := true, laidLooks := .later }
def VmIfsUptoCardSaid : Prop := Claim7.holds Tryz.pinned (.plain (OpenSpec.upto vmIfsSpec)) vmIfsUptoCard

/-- THE SECOND FORM's CARD OF 'haversacklaw18.VmVars'. -/
def vmVarsUptoCard : Claim7 := { stood := { row := vmVarsUptoRow, standIns := [], harness := (true, "b0db81f4c089e766ffed758fef5457b918bf2ffe4561cedd0cf0b14c21819f6c"), looks := true }, kinds := [], alts := [], laidByText := true, laidKinds := [.data, .data, .data, .data, .handle, .pinned], laidTests := true, laidLooks := .later }
def VmVarsUptoCardSaid : Prop := Claim7.holds Tryz.pinned (.plain (OpenSpec.upto vmVarsSpec)) vmVarsUptoCard

/-- THE SECOND FORM's CARD OF 'haversacklaw18.VmRuns'. -/
def vmRunsUptoCard : Claim7 := { stood := { row := vmRunsUptoRow, standIns := [], harness := (true, "b0db81f4c089e766ffed758fef5457b918bf2ffe4561cedd0cf0b14c21819f6c"), looks := true }, kinds := [], alts := [], laidByText := true, laidKinds := [.data, .data, .data, .data, .handle, .pinned], laidTests := true, laidLooks := .later }
def VmRunsUptoCardSaid : Prop := Claim7.holds Tryz.pinned (.plain (OpenSpec.upto vmRunsSpec)) vmRunsUptoCard

/-- THE SECOND FORM's CARD OF 'haversacklaw18.VmFuel'. -/
def vmFuelUptoCard : Claim7 := { stood := { row := vmFuelUptoRow, standIns := [], harness := (true, "b0db81f4c089e766ffed758fef5457b918bf2ffe4561cedd0cf0b14c21819f6c"), looks := true }, kinds := [], alts := [], laidByText := true, laidKinds := [.data, .data, .data, .data, .handle, .pinned], laidTests := true, laidLooks := .later }
def VmFuelUptoCardSaid : Prop := Claim7.holds Tryz.pinned (.plain (OpenSpec.upto vmFuelSpec)) vmFuelUptoCard

/-- THE SECOND FORM's CARD OF 'haversacklaw18.VmStays'. -/
def vmStaysUptoCard : Claim7 := { stood := { row := vmStaysUptoRow, standIns := [], harness := (true, "b0db81f4c089e766ffed758fef5457b918bf2ffe4561cedd0cf0b14c21819f6c"), looks := true }, kinds := [], alts := [], laidByText := true, laidKinds := [.data, .data, .data, .data, .handle, .pinned], laidTests := true, laidLooks := .later }
def VmStaysUptoCardSaid : Prop := Claim7.holds Tryz.pinned (.plain (OpenSpec.upto vmStaysSpec)) vmStaysUptoCard

/-- THE SECOND FORM's CARD OF 'haversacklaw24.StageAlone'. -/
def stageAloneUptoCard : Claim7 := { stood := { row := stageAloneUptoRow, standIns := [], harness := (true, "b0db81f4c089e766ffed758fef5457b918bf2ffe4561cedd0cf0b14c21819f6c"), looks := true }, kinds := [], alts := [], laidByText := true, laidKinds := [.data, .data, .data, .data, .handle, .pinned], laidTests := true, laidLooks := .later }
def StageAloneUptoCardSaid : Prop := Claim7.holds Tryz.pinned (.plain (OpenSpec.upto stageAloneSpec)) stageAloneUptoCard

/-- THE SECOND FORM's CARD OF 'haversacklaw24.StageNames'. -/
def stageNamesUptoCard : Claim7 := { stood := { row := stageNamesUptoRow, standIns := [], harness := (true, "b0db81f4c089e766ffed758fef5457b918bf2ffe4561cedd0cf0b14c21819f6c"), looks := true }, kinds := [], alts := [], laidByText := true, laidKinds := [.data, .data, .data, .data, .handle, .pinned], laidTests := true, laidLooks := .later }
def StageNamesUptoCardSaid : Prop := Claim7.holds Tryz.pinned (.plain (OpenSpec.upto stageNamesSpec)) stageNamesUptoCard

/-- THE SECOND FORM's CARD OF 'haversacklaw24.StageBuilds'. -/
def stageBuildsUptoCard : Claim7 := { stood := { row := stageBuildsUptoRow, standIns := [], harness := (true, "b0db81f4c089e766ffed758fef5457b918bf2ffe4561cedd0cf0b14c21819f6c"), looks := true }, kinds := [], alts := [], laidByText := true, laidKinds := [.data, .data, .data, .data, .handle, .pinned], laidTests := true, laidLooks := .later }
def StageBuildsUptoCardSaid : Prop := Claim7.holds Tryz.pinned (.plain (OpenSpec.upto stageBuildsSpec)) stageBuildsUptoCard

/-- THE SECOND FORM's CARD OF 'haversacklaw24.StageMany'. -/
def stageManyUptoCard : Claim7 := { stood := { row := stageManyUptoRow, standIns := [], harness := (true, "b0db81f4c089e766ffed758fef5457b918bf2ffe4561cedd0cf0b14c21819f6c"), looks := true }, kinds := [], alts := [], laidByText := true, laidKinds := [.data, .data, .data, .data, .handle, .pinned], laidTests := true, laidLooks := .later }
def StageManyUptoCardSaid : Prop := Claim7.holds Tryz.pinned (.plain (OpenSpec.upto stageManySpec)) stageManyUptoCard

/-- THE SECOND FORM's CARD OF 'haversacklaw24.StageAll'. -/
def stageAllUptoCard : Claim7 := { stood := { row := stageAllUptoRow, standIns := [], harness := (true, "b0db81f4c089e766ffed758fef5457b918bf2ffe4561cedd0cf0b14c21819f6c"), looks := true }, kinds := [], alts := [], laidByText := true, laidKinds := [.data, .data, .data, .data, .handle, .pinned], laidTests := true, laidLooks := .later }
def StageAllUptoCardSaid : Prop := Claim7.holds Tryz.pinned (.plain (OpenSpec.upto stageAllSpec)) stageAllUptoCard
end Rows
end Go.Proofs.YtphkaogbcfdllaaGreatDoor
