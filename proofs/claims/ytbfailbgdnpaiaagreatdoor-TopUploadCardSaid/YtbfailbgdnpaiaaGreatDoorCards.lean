/-
  DERIVED. GIVEN WITH THE SEED: THE CARDS: each row of YtbfailbgdnpaiaaGreatDoorRows.lean that lists a variable, with what it lists TIED to the program's text (the seventh form; the later family's looks); each row that meets fmt, with fmt's text TOLD by the authors' own Lean function (tested against real Go, not proved from fmt's source: count such statements apart). THE CARD IS WHAT COUNTS. Prove the row's statement (the work); the ties are given (YtbfailbgdnpaiaaGreatDoorTie.lean); close each card by the builder's one call (the guide's Derived/Test/ToyasCard.lean, 'card_holds'). Laid BY PROGRAM, IN A SANDBOX (cutbox-door.mjs). By AI agents, Wed Nov 11 2026. No macro, syntax, notation, axiom, sorry.
-/
import Derived.Test.YtbfailbgdnpaiaaGreatDoorRows
import GoSem.ClaimSeven
namespace Go.Proofs.YtbfailbgdnpaiaaGreatDoor
namespace Rows

/-- THE TIED CARD OF 'entrepottop.TopUpload'. -/
def topUploadCard : Claim7 := { stood := { row := topUploadRow, standIns := [], harness := (true, "91d2fe8c21e56668316e8b42336bc741cbaac7980d7ea765c0e382b7c7a1f7a9"), looks := true }, kinds := [], alts := [], laidByText := true, laidKinds := [.data], laidTests := true, laidLooks := .later }
def TopUploadCardSaid : Prop := Claim7.holds Tryz.pinned (.plain (OpenSpec.ofChange topUploadSpec)) topUploadCard

/-- THE SECOND FORM's CARD OF 'entrepottop.TopUpload'. -/
def topUploadUptoCard : Claim7 := { stood := { row := topUploadUptoRow, standIns := [], harness := (true, "91d2fe8c21e56668316e8b42336bc741cbaac7980d7ea765c0e382b7c7a1f7a9"), looks := true }, kinds := [], alts := [], laidByText := true, laidKinds := [.data], laidTests := true, laidLooks := .later }
def TopUploadUptoCardSaid : Prop := Claim7.holds Tryz.pinned (.plain (OpenSpec.upto topUploadSpec)) topUploadUptoCard
end Rows
end Go.Proofs.YtbfailbgdnpaiaaGreatDoor
