/-
  DERIVED. GIVEN WITH THE SEED: THE CARDS: each row of YtcpfkkppfgolaaaGreatDoorRows.lean that lists a variable, with what it lists TIED to the program's text (the seventh form; the later family's looks); each row that meets fmt, with fmt's text TOLD by the authors' own Lean function (tested against real Go, not proved from fmt's source: count such statements apart). THE CARD IS WHAT COUNTS. Prove the row's statement (the work); the ties are given (YtcpfkkppfgolaaaGreatDoorTie.lean); close each card by the builder's one call (the guide's Derived/Test/ToyasCard.lean, 'card_holds'). Laid BY PROGRAM, IN A SANDBOX (cutbox-door.mjs). By AI agents, Wed Nov 11 2026. No macro, syntax, notation, axiom, sorry.
-/
import Derived.Test.YtcpfkkppfgolaaaGreatDoorRows
import GoSem.ClaimSeven
namespace Go.Proofs.YtcpfkkppfgolaaaGreatDoor
namespace Rows

/-- THE TIED CARD OF 'pawltop.TopTrim'. -/
def topTrimCard : Claim7 := { stood := { row := topTrimRow, standIns := [], harness := (true, "ef8afb9dd0153dc798cf01a2997c1cbcb1d6e8359302a89caba23a35dfcd4f76"), looks := true }, kinds := [], alts := [], laidByText := true, laidKinds := [.data, .data, .data], laidTests := true, laidLooks := .later }
def TopTrimCardSaid : Prop := Claim7.holds Tryz.pinned (.plain (OpenSpec.ofChange topTrimSpec)) topTrimCard

/-- THE SECOND FORM's CARD OF 'pawltop.TopTrim'. -/
def topTrimUptoCard : Claim7 := { stood := { row := topTrimUptoRow, standIns := [], harness := (true, "ef8afb9dd0153dc798cf01a2997c1cbcb1d6e8359302a89caba23a35dfcd4f76"), looks := true }, kinds := [], alts := [], laidByText := true, laidKinds := [.data, .data, .data], laidTests := true, laidLooks := .later }
def TopTrimUptoCardSaid : Prop := Claim7.holds Tryz.pinned (.plain (OpenSpec.upto topTrimSpec)) topTrimUptoCard
end Rows
end Go.Proofs.YtcpfkkppfgolaaaGreatDoor
