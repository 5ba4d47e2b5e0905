/-
  DERIVED. GIVEN WITH THE SEED: THE CARDS: each row of YtjcmcmogbkdjcaaGreatDoorRows.lean that lists a variable, with what it lists TIED to the program's text (the seventh form; the later family's looks); each row that meets fmt, with fmt's text TOLD by the authors' own Lean function (tested against real Go, not proved from fmt's source: count such statements apart). THE CARD IS WHAT COUNTS. Prove the row's statement (the work); the ties are given (YtjcmcmogbkdjcaaGreatDoorTie.lean); close each card by the builder's one call (the guide's Derived/Test/ToyasCard.lean, 'card_holds'). Laid BY PROGRAM, IN A SANDBOX (cutbox-door.mjs). By AI agents, Wed Nov 11 2026. No macro, syntax, notation, axiom, sorry.
-/
import Derived.Test.YtjcmcmogbkdjcaaGreatDoorRows
import GoSem.ClaimSeven
namespace Go.Proofs.YtjcmcmogbkdjcaaGreatDoor
namespace Rows

/-- THE TIED CARD OF 'haversacklaw13.ArchiveTwice'. -/
def archiveTwiceCard : Claim7 := { stood := { row := archiveTwiceRow, standIns := [], harness := (true, "494bfa4c24f39c5a4ba1107c6bbebea62b224cd059c19675b8a615ac4cae405a"), looks := true }, kinds := [], alts := [], laidByText := true, laidKinds := [.data, .pinned], laidTests := true, laidLooks := .later }
def ArchiveTwiceCardSaid : Prop := Claim7.holds Tryz.pinned (.plain (OpenSpec.ofChange archiveTwiceSpec)) archiveTwiceCard

/-- THE SECOND FORM's CARD OF 'haversacklaw13.ArchiveTwice'. -/
def archiveTwiceUptoCard : Claim7 := { stood := { row := archiveTwiceUptoRow, standIns := [], harness := (true, "494bfa4c24f39c5a4ba1107c6bbebea62b224cd059c19675b8a615ac4cae405a"), looks := true }, kinds := [], alts := [], laidByText := true, laidKinds := [.data, .pinned], laidTests := true, laidLooks := .later }
def ArchiveTwiceUptoCardSaid : Prop := Claim7.holds Tryz.pinned (.plain (OpenSpec.upto archiveTwiceSpec)) archiveTwiceUptoCard
end Rows
end Go.Proofs.YtjcmcmogbkdjcaaGreatDoor
