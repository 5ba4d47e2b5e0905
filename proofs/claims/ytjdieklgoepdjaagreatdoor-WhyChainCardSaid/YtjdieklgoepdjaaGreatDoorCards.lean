/-
  DERIVED. GIVEN WITH THE SEED: THE CARDS: each row of YtjdieklgoepdjaaGreatDoorRows.lean that lists a variable, with what it lists TIED to the program's text (the seventh form; the later family's looks); each row that meets fmt, with fmt's text TOLD by the authors' own Lean function (tested against real Go, not proved from fmt's source: count such statements apart). THE CARD IS WHAT COUNTS. Prove the row's statement (the work); the ties are given (YtjdieklgoepdjaaGreatDoorTie.lean); close each card by the builder's one call (the guide's Derived/Test/ToyasCard.lean, 'card_holds'). Laid BY PROGRAM, IN A SANDBOX (cutbox-door.mjs). By AI agents, Wed Nov 11 2026. No macro, syntax, notation, axiom, sorry.
-/
import Derived.Test.YtjdieklgoepdjaaGreatDoorRows
import GoSem.ClaimSeven
namespace Go.Proofs.YtjdieklgoepdjaaGreatDoor
namespace Rows

/-- THE TIED CARD OF 'haversacklaw16.WhyPaths'. -/
def whyPathsCard : Claim7 := { stood := { row := whyPathsRow, standIns := [], harness := (true, "d6f5633eb196bfa185c1a21d301bba1c878b694b4a9eefc8b1d5e7a11b0b4442"), looks := true }, kinds := [], alts := [], laidByText := true, laidKinds := [.handle], laidTests := true, laidLooks := .later }
def WhyPathsCardSaid : Prop := Claim7.holds Tryz.pinned (.plain (OpenSpec.ofChange whyPathsSpec)) whyPathsCard

/-- THE TIED CARD OF 'haversacklaw16.WhyCores'. -/
def whyCoresCard : Claim7 := { stood := { row := whyCoresRow, standIns := [], harness := (true, "d6f5633eb196bfa185c1a21d301bba1c878b694b4a9eefc8b1d5e7a11b0b4442"), looks := true }, kinds := [], alts := [], laidByText := true, laidKinds := [.handle], laidTests := true, laidLooks := .later }
def WhyCoresCardSaid : Prop := Claim7.holds Tryz.pinned (.plain (OpenSpec.ofChange whyCoresSpec)) whyCoresCard

/-- THE TIED CARD OF 'haversacklaw16.WhyWays'. -/
def whyWaysCard : Claim7 := { stood := { row := whyWaysRow, standIns := [], harness := (true, "d6f5633eb196bfa185c1a21d301bba1c878b694b4a9eefc8b1d5e7a11b0b4442"), looks := true }, kinds := [], alts := [], laidByText := true, laidKinds := [.handle], laidTests := true, laidLooks := .later }
def WhyWaysCardSaid : Prop := Claim7.holds Tryz.pinned (.plain (OpenSpec.ofChange whyWaysSpec)) whyWaysCard

/-- THE TIED CARD OF 'haversacklaw16.WhyTurned'. -/
def whyTurnedCard : Claim7 := { stood := { row := whyTurnedRow, standIns := [], harness := (true, "d6f5633eb196bfa185c1a21d301bba1c878b694b4a9eefc8b1d5e7a11b0b4442"), looks := true }, kinds := [], alts := [], laidByText := true, laidKinds := [.handle], laidTests := true, laidLooks := .later }
def WhyTurnedCardSaid : Prop := Claim7.holds Tryz.pinned (.plain (OpenSpec.ofChange whyTurnedSpec)) whyTurnedCard

/-- THE TIED CARD OF 'haversacklaw16.WhyChain'. -/
def whyChainCard : Claim7 := { stood := { row := whyChainRow, standIns := [], harness := (true, "d6f5633eb196bfa185c1a21d301bba1c878b694b4a9eefc8b1d5e7a11b0b4442"), looks := true }, kinds := [], alts := [], laidByText := true, laidKinds := [.handle], laidTests := true, laidLooks := .later }
def WhyChainCardSaid : Prop := Claim7.holds Tryz.pinned (.plain (OpenSpec.ofChange whyChainSpec)) whyChainCard

/-- THE TIED CARD OF 'haversacklaw15.SolveGreatest'. -/
def solveGreatestCard : Claim7 := { stood := { row := solveGreatestRow, standIns := [], harness := (true, "d6f5633eb196bfa185c1a21d301bba1c878b694b4a9eefc8b1d5e7a11b0b4442"), looks := true }, kinds := [], alts := [], laidByText := true, laidKinds := [.data, .data, .data, .handle], laidTests := true, laidLooks := .later }
def SolveGreatestCardSaid : Prop := Claim7.holds Tryz.pinned (.plain (OpenSpec.ofChange solveGreatestSpec)) solveGreatestCard

/-- THE TIED CARD OF 'haversacklaw15.SolveFits'. -/
def solveFitsCard : Claim7 := { stood := { row := solveFitsRow, standIns := [], harness := (true, "d6f5633eb196bfa185c1a21d301bba1c878b694b4a9eefc8b1d5e7a11b0b4442"), looks := true }, kinds := [], alts := [], laidByText := true, laidKinds := [.data, .data, .data, .handle], laidTests := true, laidLooks := .later }
def SolveFitsCardSaid : Prop := Claim7.holds Tryz.pinned (.plain (OpenSpec.ofChange solveFitsSpec)) solveFitsCard

/-- THE TIED CARD OF 'haversacklaw15.SolveNone'. -/
def solveNoneCard : Claim7 := { stood := { row := solveNoneRow, standIns := [], harness := (true, "d6f5633eb196bfa185c1a21d301bba1c878b694b4a9eefc8b1d5e7a11b0b4442"), looks := true }, kinds := [], alts := [], laidByText := true, laidKinds := [.data, .data, .data, .handle], laidTests := true, laidLooks := .later }
def SolveNoneCardSaid : Prop := Claim7.holds Tryz.pinned (.plain (OpenSpec.ofChange solveNoneSpec)) solveNoneCard

/-- THE TIED CARD OF 'haversacklaw15.SolveChain'. -/
def solveChainCard : Claim7 := { stood := { row := solveChainRow, standIns := [], harness := (true, "d6f5633eb196bfa185c1a21d301bba1c878b694b4a9eefc8b1d5e7a11b0b4442"), looks := true }, kinds := [], alts := [], laidByText := true, laidKinds := [.data, .data, .data, .handle], laidTests := true, laidLooks := .later }
def SolveChainCardSaid : Prop := Claim7.holds Tryz.pinned (.plain (OpenSpec.ofChange solveChainSpec)) solveChainCard

/-- THE TIED CARD OF 'haversacklaw15.SolveBudget'. -/
def solveBudgetCard : Claim7 := { stood := { row := solveBudgetRow, standIns := [], harness := (true, "d6f5633eb196bfa185c1a21d301bba1c878b694b4a9eefc8b1d5e7a11b0b4442"), looks := true }, kinds := [], alts := [], laidByText := true, laidKinds := [.data, .data, .data, .handle], laidTests := true, laidLooks := .later }
def SolveBudgetCardSaid : Prop := Claim7.holds Tryz.pinned (.plain (OpenSpec.ofChange solveBudgetSpec)) solveBudgetCard

/-- THE TIED CARD OF 'haversacklaw15.SolveTurned'. -/
def solveTurnedCard : Claim7 := { stood := { row := solveTurnedRow, standIns := [], harness := (true, "d6f5633eb196bfa185c1a21d301bba1c878b694b4a9eefc8b1d5e7a11b0b4442"), looks := true }, kinds := [], alts := [], laidByText := true, laidKinds := [.data, .data, .data, .handle], laidTests := true, laidLooks := .later }
def SolveTurnedCardSaid : Prop := Claim7.holds Tryz.pinned (.plain (OpenSpec.ofChange solveTurnedSpec)) solveTurnedCard

/-- THE TIED CARD OF 'haversacklaw15.SolveRing'. -/
def solveRingCard : Claim7 := { stood := { row := solveRingRow, standIns := [], harness := (true, "d6f5633eb196bfa185c1a21d301bba1c878b694b4a9eefc8b1d5e7a11b0b4442"), looks := true }, kinds := [], alts := [], laidByText := true, laidKinds := [.data, .data, .data, .handle], laidTests := true, laidLooks := .later }
def SolveRingCardSaid : Prop := Claim7.holds Tryz.pinned (.plain (OpenSpec.ofChange solveRingSpec)) solveRingCard

/-- THE TIED CARD OF 'haversacklaw15.SolveFirst'. -/
def solveFirstCard : Claim7 := { stood := { row := solveFirstRow, standIns := [], harness := (true, "d6f5633eb196bfa185c1a21d301bba1c878b694b4a9eefc8b1d5e7a11b0b4442"), looks := true }, kinds := [], alts := [], laidByText := true, laidKinds := [.data, .data, .data, .handle], laidTests := true, laidLooks := .later }
def SolveFirstCardSaid : Prop := Claim7.holds Tryz.pinned (.plain (OpenSpec.ofChange solveFirstSpec)) solveFirstCard

/-- THE TIED CARD OF 'haversacklaw15.SolveBetter'. -/
def solveBetterCard : Claim7 := { stood := { row := solveBetterRow, standIns := [], harness := (true, "d6f5633eb196bfa185c1a21d301bba1c878b694b4a9eefc8b1d5e7a11b0b4442"), looks := true }, kinds := [], alts := [], laidByText := true, laidKinds := [.data, .data, .data, .handle], laidTests := true, laidLooks := .later }
def SolveBetterCardSaid : Prop := Claim7.holds Tryz.pinned (.plain (OpenSpec.ofChange solveBetterSpec)) solveBetterCard

/-- THE SECOND FORM's CARD OF 'haversacklaw16.WhyPaths'. -/
def whyPathsUptoCard : Claim7 := { stood := { row := whyPathsUptoRow, standIns := [], harness := (true, "d6f5633eb196bfa185c1a21d301bba1c878b694b4a9eefc8b1d5e7a11b0b4442"), looks := true }, kinds := [], alts := [], laidByText := true, laidKinds := [.handle], laidTests := true, laidLooks := .later }
def WhyPathsUptoCardSaid : Prop := Claim7.holds Tryz.pinned (.plain (OpenSpec.upto whyPathsSpec)) whyPathsUptoCard

/-- THE SECOND FORM's CARD OF 'haversacklaw16.WhyCores'. -/
def whyCoresUptoCard : Claim7 := { stood := { row := whyCoresUptoRow, standIns := [], harness := (true, "d6f5633eb196bfa185c1a21d301bba1c878b694b4a9eefc8b1d5e7a11b0b4442"), looks := true }, kinds := [], alts := [], laidByText := true, laidKinds := [.handle], laidTests := true, laidLooks := .later }
def WhyCoresUptoCardSaid : Prop := Claim7.holds Tryz.pinned (.plain (OpenSpec.upto whyCoresSpec)) whyCoresUptoCard

/-- THE SECOND FORM's CARD OF 'haversacklaw16.WhyWays'. -/
def whyWaysUptoCard : Claim7 := { stood := { row := whyWaysUptoRow, standIns := [], harness := (true, "d6f5633eb196bfa185c1a21d301bba1c878b694b4a9eefc8b1d5e7a11b0b4442"), looks := true }, kinds := [], alts := [], laidByText := true, laidKinds := [.handle], laidTests := true, laidLooks := .later }
def WhyWaysUptoCardSaid : Prop := Claim7.holds Tryz.pinned (.plain (OpenSpec.upto whyWaysSpec)) whyWaysUptoCard

/-- THE SECOND FORM's CARD OF 'haversacklaw16.WhyTurned'. -/
def whyTurnedUptoCard : Claim7 := { stood := { row := whyTurnedUptoRow, standIns := [], harness := (true, "d6f5633eb196bfa185c1a21d301bba1c878b694b4a9eefc8b1d5e7a11b0b4442"), looks := true }, kinds := [], alts := [], laidByText := true, laidKinds := [.handle], laidTests := true, laidLooks := .later }
def WhyTurnedUptoCardSaid : Prop := Claim7.holds Tryz.pinned (.plain (OpenSpec.upto whyTurnedSpec)) whyTurnedUptoCard

/-- THE SECOND FORM's CARD OF 'haversacklaw16.WhyChain'. -/
def whyChainUptoCard : Claim7 := { stood := { row := whyChainUptoRow, standIns := [], harness := (true, "d6f5633eb196bfa185c1a21d301bba1c878b694b4a9eefc8b1d5e7a11b0b4442"), looks := true }, kinds := [], alts := [], laidByText := true, laidKinds := [.handle], laidTests := true, laidLooks := .later }
def WhyChainUptoCardSaid : Prop := Claim7.holds Tryz.pinned (.plain (OpenSpec.upto whyChainSpec)) whyChainUptoCard

/-- THE SECOND FORM's CARD OF 'haversacklaw15.SolveGreatest'. -/
def solveGreatestUptoCard : Claim7 := { stood := { row := solveGreatestUptoRow, standIns := [], harness := (true, "d6f5633eb196bfa185c1a21d301bba1c878b694b4a9eefc8b1d5e7a11b0b4442"), looks := true }, kinds := [], alts := [], laidByText := true, laidKinds := [.data, .data, .data, .handle], laidTests := true, laidLooks := .later }
def SolveGreatestUptoCardSaid : Prop := Claim7.holds Tryz.pinned (.plain (OpenSpec.upto solveGreatestSpec)) solveGreatestUptoCard

/-- THE SECOND FORM's CARD OF 'haversacklaw15.SolveFits'. -/
def solveFitsUptoCard : Claim7 := { stood := { row := solveFitsUptoRow, standIns := [], harness := (true, "d6f5633eb196bfa185c1a21d301bba1c878b694b4a9eefc8b1d5e7a11b0b4442"), looks := true }, kinds := [], alts := [], laidByText := true, laidKinds := [.data, .data, .data, .handle], laidTests := true, laidLooks := .later }
def SolveFitsUptoCardSaid : Prop := Claim7.holds Tryz.pinned (.plain (OpenSpec.upto solveFitsSpec)) solveFitsUptoCard

/-- THE SECOND FORM's CARD OF 'haversacklaw15.SolveNone'. -/
def solveNoneUptoCard : Claim7 := { stood := { row := solveNoneUptoRow, standIns := [], harness := (true, "d6f5633eb196bfa185c1a21d301bba1c878b694b4a9eefc8b1d5e7a11b0b4442"), looks := true }, kinds := [], alts := [], laidByText := true, laidKinds := [.data, .data, .data, .handle], laidTests := true, laidLooks := .later }
def SolveNoneUptoCardSaid : Prop := Claim7.holds Tryz.pinned (.plain (OpenSpec.upto solveNoneSpec)) solveNoneUptoCard

/-- THE SECOND FORM's CARD OF 'haversacklaw15.SolveChain'. -/
def solveChainUptoCard : Claim7 := { stood := { row := solveChainUptoRow, standIns := [], harness := (true, "d6f5633eb196bfa185c1a21d301bba1c878b694b4a9eefc8b1d5e7a11b0b4442"), looks := true }, kinds := [], alts := [], laidByText := true, laidKinds := [.data, .data, .data, .handle], laidTests := true, laidLooks := .later }
def SolveChainUptoCardSaid : Prop := Claim7.holds Tryz.pinned (.plain (OpenSpec.upto solveChainSpec)) solveChainUptoCard

/-- THE SECOND FORM's CARD OF 'haversacklaw15.SolveBudget'. -/
def solveBudgetUptoCard : Claim7 := { stood := { row := solveBudgetUptoRow, standIns := [], harness := (true, "d6f5633eb196bfa185c1a21d301bba1c878b694b4a9eefc8b1d5e7a11b0b4442"), looks := true }, kinds := [], alts := [], laidByText := true, laidKinds := [.data, .data, .data, .handle], laidTests := true, laidLooks := .later }
def SolveBudgetUptoCardSaid : Prop := Claim7.holds Tryz.pinned (.plain (OpenSpec.upto solveBudgetSpec)) solveBudgetUptoCard

/-- THE SECOND FORM's CARD OF 'haversacklaw15.SolveTurned'. -/
def solveTurnedUptoCard : Claim7 := { stood := { row := solveTurnedUptoRow, standIns := [], harness := (true, "d6f5633eb196bfa185c1a21d301bba1c878b694b4a9eefc8b1d5e7a11b0b4442"), looks := true }, kinds := [], alts := [], laidByText := true, laidKinds := [.data, .data, .data, .handle], laidTests := true, laidLooks := .later }
def SolveTurnedUptoCardSaid : Prop := Claim7.holds Tryz.pinned (.plain (OpenSpec.upto solveTurnedSpec)) solveTurnedUptoCard

/-- THE SECOND FORM's CARD OF 'haversacklaw15.SolveRing'. -/
def solveRingUptoCard : Claim7 := { stood := { row := solveRingUptoRow, standIns := [], harness := (true, "d6f5633eb196bfa185c1a21d301bba1c878b694b4a9eefc8b1d5e7a11b0b4442"), looks := true }, kinds := [], alts := [], laidByText := true, laidKinds := [.data, .data, .data, .handle], laidTests := true, laidLooks := .later }
def SolveRingUptoCardSaid : Prop := Claim7.holds Tryz.pinned (.plain (OpenSpec.upto solveRingSpec)) solveRingUptoCard

/-- THE SECOND FORM's CARD OF 'haversacklaw15.SolveFirst'. -/
def solveFirstUptoCard : Claim7 := { stood := { row := solveFirstUptoRow, standIns := [], harness := (true, "d6f5633eb196bfa185c1a21d301bba1c878b694b4a9eefc8b1d5e7a11b0b4442"), looks := true }, kinds := [], alts := [], laidByText := true, laidKinds := [.data, .data, .data, .handle], laidTests := true, laidLooks := .later }
def SolveFirstUptoCardSaid : Prop := Claim7.holds Tryz.pinned (.plain (OpenSpec.upto solveFirstSpec)) solveFirstUptoCard

/-- THE SECOND FORM's CARD OF 'haversacklaw15.SolveBetter'. -/
def solveBetterUptoCard : Claim7 := { stood := { row := solveBetterUptoRow, standIns := [], harness := (true, "d6f5633eb196bfa185c1a21d301bba1c878b694b4a9eefc8b1d5e7a11b0b4442"), looks := true }, kinds := [], alts := [], laidByText := true, laidKinds := [.data, .data, .data, .handle], laidTests := true, laidLooks := .later }
def SolveBetterUptoCardSaid : Prop := Claim7.holds Tryz.pinned (.plain (OpenSpec.upto solveBetterSpec)) solveBetterUptoCard
end Rows
end Go.Proofs.YtjdieklgoepdjaaGreatDoor
