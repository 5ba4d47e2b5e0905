/-
  DERIVED. GIVEN WITH THE SEED: THE CARDS: each row of YtjcmcmogbkdjcaaDoorRows.lean that lists a variable, with what it lists TIED to the program's text (the seventh form; the later family's looks); each row that meets fmt, with fmt's text TOLD by the authors' own Lean function (tested against real Go, not proved from fmt's source: count such statements apart). THE CARD IS WHAT COUNTS. Prove the row's statement (the work); the ties are given (YtjcmcmogbkdjcaaDoorTie.lean); close each card by the builder's one call (the guide's Derived/Test/ToyasCard.lean, 'card_holds'). Laid BY PROGRAM, IN A SANDBOX (cutbox-door.mjs). By AI agents, Wed Nov 11 2026. No macro, syntax, notation, axiom, sorry.
-/
import Derived.Test.YtjcmcmogbkdjcaaDoorRows
import GoSem.ClaimSeven
namespace Go.Proofs.YtjcmcmogbkdjcaaDoor
namespace Rows

/-- THE TIED CARD OF 'haversacklaw13.ArchiveMany'. -/
def archiveManyCard : Claim7 := { stood := { row := archiveManyRow, standIns := [], harness := (true, "49ba28535bbf26d194ae55fa491fddf7895cc0177e136b2b73cc26c9a32e413a"), looks := true }, kinds := [], alts := [], laidByText := true, laidKinds := [.data, .pinned], laidTests := true, laidLooks := .later }
def ArchiveManyCardSaid : Prop := Claim7.holds Tryd.pinned (.plain (OpenSpec.ofChange archiveManySpec)) archiveManyCard

/-- THE SECOND FORM's CARD OF 'haversacklaw13.ArchiveMany'. -/
def archiveManyUptoCard : Claim7 := { stood := { row := archiveManyUptoRow, standIns := [], harness := (true, "49ba28535bbf26d194ae55fa491fddf7895cc0177e136b2b73cc26c9a32e413a"), looks := true }, kinds := [], alts := [], laidByText := true, laidKinds := [.data, .pinned], laidTests := true, laidLooks := .later }
def ArchiveManyUptoCardSaid : Prop := Claim7.holds Tryd.pinned (.plain (OpenSpec.upto archiveManySpec)) archiveManyUptoCard
end Rows
end Go.Proofs.YtjcmcmogbkdjcaaDoor
