/-
  DERIVED. GIVEN WITH THE SEED: THE CARDS: each row of YtbifjamddbpcjaaGreatDoorRows.lean that lists a variable, with what it lists TIED to the program's text (the seventh form; the later family's looks); each row that meets fmt, with fmt's text TOLD by the authors' own Lean function (tested against real Go, not proved from fmt's source: count such statements apart). THE CARD IS WHAT COUNTS. Prove the row's statement (the work); the ties are given (YtbifjamddbpcjaaGreatDoorTie.lean); close each card by the builder's one call (the guide's Derived/Test/ToyasCard.lean, 'card_holds'). Laid BY PROGRAM, IN A SANDBOX (cutbox-door.mjs). By AI agents, Wed Nov 11 2026. No macro, syntax, notation, axiom, sorry.
-/
import Derived.Test.YtbifjamddbpcjaaGreatDoorRows
import GoSem.ClaimSeven
namespace Go.Proofs.YtbifjamddbpcjaaGreatDoor
namespace Rows

/-- THE TIED CARD OF 'ostiarylaw10.JwkTells'. -/
def jwkTellsCard : Claim7 := { stood := { row := jwkTellsRow, standIns := [], harness := (true, "8d1b1113d2cc2ac8021c6206bb1f14dd4b25d70df6e7ee6bcb80eb29be550a63"), looks := true }, kinds := [], alts := [], laidByText := true, laidKinds := [.data, .data, .data, .data, .handle, .sentinel, .sentinel, .pinned], laidTests := true, laidLooks := .later }
def JwkTellsCardSaid : Prop := Claim7.holds Tryz.pinned (.plain (OpenSpec.ofChange jwkTellsSpec)) jwkTellsCard

/-- THE TIED CARD OF 'ostiarylaw10.JwkReads'. -/
def jwkReadsCard : Claim7 := { stood := { row := jwkReadsRow, standIns := [], harness := (true, "8d1b1113d2cc2ac8021c6206bb1f14dd4b25d70df6e7ee6bcb80eb29be550a63"), looks := true }, kinds := [], alts := [], laidByText := true, laidKinds := [.data, .data, .data, .data, .handle, .sentinel, .sentinel, .pinned], laidTests := true, laidLooks := .later }
def JwkReadsCardSaid : Prop := Claim7.holds Tryz.pinned (.plain (OpenSpec.ofChange jwkReadsSpec)) jwkReadsCard

/-- THE TIED CARD OF 'ostiarylaw10.JwkBack'. -/
def jwkBackCard : Claim7 := { stood := { row := jwkBackRow, standIns := [], harness := (true, "8d1b1113d2cc2ac8021c6206bb1f14dd4b25d70df6e7ee6bcb80eb29be550a63"), looks := true }, kinds := [], alts := [], laidByText := true, laidKinds := [.data, .data, .data, .data, .handle, .sentinel, .sentinel, .pinned], laidTests := true, laidLooks := .later }
def JwkBackCardSaid : Prop := Claim7.holds Tryz.pinned (.plain (OpenSpec.ofChange jwkBackSpec)) jwkBackCard

/-- THE TIED CARD OF 'ostiarylaw10.JwkThumbs'. -/
def jwkThumbsCard : Claim7 := { stood := { row := jwkThumbsRow, standIns := [], harness := (true, "8d1b1113d2cc2ac8021c6206bb1f14dd4b25d70df6e7ee6bcb80eb29be550a63"), looks := true }, kinds := [], alts := [], laidByText := true, laidKinds := [.data, .data, .data, .data, .handle, .sentinel, .sentinel, .pinned], laidTests := true, laidLooks := .later }
def JwkThumbsCardSaid : Prop := Claim7.holds Tryz.pinned (.plain (OpenSpec.ofChange jwkThumbsSpec)) jwkThumbsCard

/-- THE TIED CARD OF 'ostiarylaw10.JwkSets'. -/
def jwkSetsCard : Claim7 := { stood := { row := jwkSetsRow, standIns := [], harness := (true, "8d1b1113d2cc2ac8021c6206bb1f14dd4b25d70df6e7ee6bcb80eb29be550a63"), looks := true }, kinds := [], alts := [], laidByText := true, laidKinds := [.data, .data, .data, .data, .handle, .sentinel, .sentinel, .pinned], laidTests := true, laidLooks := .later }
def JwkSetsCardSaid : Prop := Claim7.holds Tryz.pinned (.plain (OpenSpec.ofChange jwkSetsSpec)) jwkSetsCard

/-- THE SECOND FORM's CARD OF 'ostiarylaw10.JwkTells'. -/
def jwkTellsUptoCard : Claim7 := { stood := { row := jwkTellsUptoRow, standIns := [], harness := (true, "8d1b1113d2cc2ac8021c6206bb1f14dd4b25d70df6e7ee6bcb80eb29be550a63"), looks := true }, kinds := [], alts := [], laidByText := true, laidKinds := [.data, .data, .data, .data, .handle, .sentinel, .sentinel, .pinned], laidTests := true, laidLooks := .later }
def JwkTellsUptoCardSaid : Prop := Claim7.holds Tryz.pinned (.plain (OpenSpec.upto jwkTellsSpec)) jwkTellsUptoCard

/-- THE SECOND FORM's CARD OF 'ostiarylaw10.JwkReads'. -/
def jwkReadsUptoCard : Claim7 := { stood := { row := jwkReadsUptoRow, standIns := [], harness := (true, "8d1b1113d2cc2ac8021c6206bb1f14dd4b25d70df6e7ee6bcb80eb29be550a63"), looks := true }, kinds := [], alts := [], laidByText := true, laidKinds := [.data, .data, .data, .data, .handle, .sentinel, .sentinel, .pinned], laidTests := true, laidLooks := .later }
def JwkReadsUptoCardSaid : Prop := Claim7.holds Tryz.pinned (.plain (OpenSpec.upto jwkReadsSpec)) jwkReadsUptoCard

/-- THE SECOND FORM's CARD OF 'ostiarylaw10.JwkBack'. -/
def jwkBackUptoCard : Claim7 := { stood := { row := jwkBackUptoRow, standIns := [], harness := (true, "8d1b1113d2cc2ac8021c6206bb1f14dd4b25d70df6e7ee6bcb80eb29be550a63"), looks := true }, kinds := [], alts := [], laidByText := true, laidKinds := [.data, .data, .data, .data, .handle, .sentinel, .sentinel, .pinned], laidTests := true, laidLooks := .later }
def JwkBackUptoCardSaid : Prop := Claim7.holds Tryz.pinned (.plain (OpenSpec.upto jwkBackSpec)) jwkBackUptoCard

/-- THE SECOND FORM's CARD OF 'ostiarylaw10.JwkThumbs'. -/
def jwkThumbsUptoCard : Claim7 := { stood := { row := jwkThumbsUptoRow, standIns := [], harness := (true, "8d1b1113d2cc2ac8021c6206bb1f14dd4b25d70df6e7ee6bcb80eb29be550a63"), looks := true }, kinds := [], alts := [], laidByText := true, laidKinds := [.data, .data, .data, .data, .handle, .sentinel, .sentinel, .pinned], laidTests := true, laidLooks := .later }
def JwkThumbsUptoCardSaid : Prop := Claim7.holds Tryz.pinned (.plain (OpenSpec.upto jwkThumbsSpec)) jwkThumbsUptoCard

/-- THE SECOND FORM's CARD OF 'ostiarylaw10.JwkSets'. -/
def jwkSetsUptoCard : Claim7 := { stood := { row := jwkSetsUptoRow, standIns := [], harness := (true, "8d1b1113d2cc2ac8021c6206bb1f14dd4b25d70df6e7ee6bcb80eb29be550a63"), looks := true }, kinds := [], alts := [], laidByText := true, laidKinds := [.data, .data, .data, .data, .handle, .sentinel, .sentinel, .pinned], laidTests := true, laidLooks := .later }
def JwkSetsUptoCardSaid : Prop := Claim7.holds Tryz.pinned (.plain (OpenSpec.upto jwkSetsSpec)) jwkSetsUptoCard
end Rows
end Go.Proofs.YtbifjamddbpcjaaGreatDoor
