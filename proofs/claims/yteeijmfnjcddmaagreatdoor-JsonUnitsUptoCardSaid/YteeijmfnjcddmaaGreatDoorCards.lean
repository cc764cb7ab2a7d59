/-
  DERIVED. GIVEN WITH THE SEED: THE CARDS: each row of YteeijmfnjcddmaaGreatDoorRows.lean that lists a variable, with what it lists TIED to the program's text (the seventh form; the later family's looks); each row that meets fmt, with fmt's text TOLD by the authors' own Lean function (tested against real Go, not proved from fmt's source: count such statements apart). THE CARD IS WHAT COUNTS. Prove the row's statement (the work); the ties are given (YteeijmfnjcddmaaGreatDoorTie.lean); close each card by the builder's one call (the guide's Derived/Test/ToyasCard.lean, 'card_holds'). Laid BY PROGRAM, IN A SANDBOX (cutbox-door.mjs). By AI agents, Wed Nov 11 2026. No macro, syntax, notation, axiom, sorry.
-/
import Derived.Test.YteeijmfnjcddmaaGreatDoorRows
import GoSem.ClaimSeven
namespace Go.Proofs.YteeijmfnjcddmaaGreatDoor
namespace Rows

/-- THE TIED CARD OF 'ostiarylaw09.JsonChecks'. -/
def jsonChecksCard : Claim7 := { stood := { row := jsonChecksRow, standIns := [], harness := (true, "35214b211c2839262fd1e323245d5173353062da96e00b29d893765a7b99eb7e"), looks := true }, kinds := [], alts := [], laidByText := true, laidKinds := [.data, .data, .data, .data, .handle, .sentinel, .sentinel, .pinned], laidTests := true, laidLooks := .later }
def JsonChecksCardSaid : Prop := Claim7.holds Tryz.pinned (.plain (OpenSpec.ofChange jsonChecksSpec)) jsonChecksCard

/-- THE TIED CARD OF 'ostiarylaw09.JsonTells'. -/
def jsonTellsCard : Claim7 := { stood := { row := jsonTellsRow, standIns := [], harness := (true, "35214b211c2839262fd1e323245d5173353062da96e00b29d893765a7b99eb7e"), looks := true }, kinds := [], alts := [], laidByText := true, laidKinds := [.data, .data, .data, .data, .handle, .sentinel, .sentinel, .pinned], laidTests := true, laidLooks := .later }
def JsonTellsCardSaid : Prop := Claim7.holds Tryz.pinned (.plain (OpenSpec.ofChange jsonTellsSpec)) jsonTellsCard

/-- THE TIED CARD OF 'ostiarylaw09.JsonReads'. -/
def jsonReadsCard : Claim7 := { stood := { row := jsonReadsRow, standIns := [], harness := (true, "35214b211c2839262fd1e323245d5173353062da96e00b29d893765a7b99eb7e"), looks := true }, kinds := [], alts := [], laidByText := true, laidKinds := [.data, .data, .data, .data, .handle, .sentinel, .sentinel, .pinned], laidTests := true, laidLooks := .later }
def JsonReadsCardSaid : Prop := Claim7.holds Tryz.pinned (.plain (OpenSpec.ofChange jsonReadsSpec)) jsonReadsCard

/-- THE TIED CARD OF 'ostiarylaw09.JsonFinds'. -/
def jsonFindsCard : Claim7 := { stood := { row := jsonFindsRow, standIns := [], harness := (true, "35214b211c2839262fd1e323245d5173353062da96e00b29d893765a7b99eb7e"), looks := true }, kinds := [], alts := [], laidByText := true, laidKinds := [.data, .data, .data, .data, .handle, .sentinel, .sentinel, .pinned], laidTests := true, laidLooks := .later }
def JsonFindsCardSaid : Prop := Claim7.holds Tryz.pinned (.plain (OpenSpec.ofChange jsonFindsSpec)) jsonFindsCard

/-- THE TIED CARD OF 'ostiarylaw09.JsonBack'. -/
def jsonBackCard : Claim7 := { stood := { row := jsonBackRow, standIns := [], harness := (true, "35214b211c2839262fd1e323245d5173353062da96e00b29d893765a7b99eb7e"), looks := true }, kinds := [], alts := [], laidByText := true, laidKinds := [.data, .data, .data, .data, .handle, .sentinel, .sentinel, .pinned], laidTests := true, laidLooks := .later }
def JsonBackCardSaid : Prop := Claim7.holds Tryz.pinned (.plain (OpenSpec.ofChange jsonBackSpec)) jsonBackCard

/-- THE TIED CARD OF 'ostiarylaw09.JsonOrder'. -/
def jsonOrderCard : Claim7 := { stood := { row := jsonOrderRow, standIns := [], harness := (true, "35214b211c2839262fd1e323245d5173353062da96e00b29d893765a7b99eb7e"), looks := true }, kinds := [], alts := [], laidByText := true, laidKinds := [.data, .data, .data, .data, .handle, .sentinel, .sentinel, .pinned], laidTests := true, laidLooks := .later }
def JsonOrderCardSaid : Prop := Claim7.holds Tryz.pinned (.plain (OpenSpec.ofChange jsonOrderSpec)) jsonOrderCard

/-- THE TIED CARD OF 'ostiarylaw09.JsonBlanks'. -/
def jsonBlanksCard : Claim7 := { stood := { row := jsonBlanksRow, standIns := [], harness := (true, "35214b211c2839262fd1e323245d5173353062da96e00b29d893765a7b99eb7e"), looks := true }, kinds := [], alts := [], laidByText := true, laidKinds := [.data, .data, .data, .data, .handle, .sentinel, .sentinel, .pinned], laidTests := true, laidLooks := .later }
def JsonBlanksCardSaid : Prop := Claim7.holds Tryz.pinned (.plain (OpenSpec.ofChange jsonBlanksSpec)) jsonBlanksCard

/-- THE TIED CARD OF 'ostiarylaw09.JsonBuilt'. -/
def jsonBuiltCard : Claim7 := { stood := { row := jsonBuiltRow, standIns := [], harness := (true, "35214b211c2839262fd1e323245d5173353062da96e00b29d893765a7b99eb7e"), looks := true }, kinds := [], alts := [], laidByText := true, laidKinds := [.data, .data, .data, .data, .handle, .sentinel, .sentinel, .pinned], laidTests := true, laidLooks := .later }
def JsonBuiltCardSaid : Prop := Claim7.holds Tryz.pinned (.plain (OpenSpec.ofChange jsonBuiltSpec)) jsonBuiltCard

/-- THE TIED CARD OF 'ostiarylaw09.JsonUnits'. -/
def jsonUnitsCard : Claim7 := { stood := { row := jsonUnitsRow, standIns := [], harness := (true, "35214b211c2839262fd1e323245d5173353062da96e00b29d893765a7b99eb7e"), looks := true }, kinds := [], alts := [], laidByText := true, laidKinds := [.data, .data, .data, .data, .handle, .sentinel, .sentinel, .pinned], laidTests := true, laidLooks := .later }
def JsonUnitsCardSaid : Prop := Claim7.holds Tryz.pinned (.plain (OpenSpec.ofChange jsonUnitsSpec)) jsonUnitsCard

/-- THE SECOND FORM's CARD OF 'ostiarylaw09.JsonChecks'. -/
def jsonChecksUptoCard : Claim7 := { stood := { row := jsonChecksUptoRow, standIns := [], harness := (true, "35214b211c2839262fd1e323245d5173353062da96e00b29d893765a7b99eb7e"), looks := true }, kinds := [], alts := [], laidByText := true, laidKinds := [.data, .data, .data, .data, .handle, .sentinel, .sentinel, .pinned], laidTests := true, laidLooks := .later }
def JsonChecksUptoCardSaid : Prop := Claim7.holds Tryz.pinned (.plain (OpenSpec.upto jsonChecksSpec)) jsonChecksUptoCard

/-- THE SECOND FORM's CARD OF 'ostiarylaw09.JsonTells'. -/
def jsonTellsUptoCard : Claim7 := { stood := { row := jsonTellsUptoRow, standIns := [], harness := (true, "35214b211c2839262fd1e323245d5173353062da96e00b29d893765a7b99eb7e"), looks := true }, kinds := [], alts := [], laidByText := true, laidKinds := [.data, .data, .data, .data, .handle, .sentinel, .sentinel, .pinned], laidTests := true, laidLooks := .later }
def JsonTellsUptoCardSaid : Prop := Claim7.holds Tryz.pinned (.plain (OpenSpec.upto jsonTellsSpec)) jsonTellsUptoCard

/-- THE SECOND FORM's CARD OF 'ostiarylaw09.JsonReads'. -/
def jsonReadsUptoCard : Claim7 := { stood := { row := jsonReadsUptoRow, standIns := [], harness := (true, "35214b211c2839262fd1e323245d5173353062da96e00b29d893765a7b99eb7e"), looks := true }, kinds := [], alts := [], laidByText := true, laidKinds := [.data, .data, .data, .data, .handle, .sentinel, .sentinel, .pinned], laidTests := true, laidLooks := .later }
def JsonReadsUptoCardSaid : Prop := Claim7.holds Tryz.pinned (.plain (OpenSpec.upto jsonReadsSpec)) jsonReadsUptoCard

/-- THE SECOND FORM's CARD OF 'ostiarylaw09.JsonFinds'. -/
def jsonFindsUptoCard : Claim7 := { stood := { row := jsonFindsUptoRow, standIns := [], harness := (true, "35214b211c2839262fd1e323245d5173353062da96e00b29d893765a7b99eb7e"), looks := true }, kinds := [], alts := [], laidByText := true, laidKinds := [.data, .data, .data, .data, .handle, .sentinel, .sentinel, .pinned], laidTests := true, laidLooks := .later }
def JsonFindsUptoCardSaid : Prop := Claim7.holds Tryz.pinned (.plain (OpenSpec.upto jsonFindsSpec)) jsonFindsUptoCard

/-- THE SECOND FORM's CARD OF 'ostiarylaw09.JsonBack'. -/
def jsonBackUptoCard : Claim7 := { stood := { row := jsonBackUptoRow, standIns := [], harness := (true, "35214b211c2839262fd1e323245d5173353062da96e00b29d893765a7b99eb7e"), looks := true }, kinds := [], alts := [], laidByText := true, laidKinds := [.data, .data, .data, .data, .handle, .sentinel, .sentinel, .pinned], laidTests := true, laidLooks := .later }
def JsonBackUptoCardSaid : Prop := Claim7.holds Tryz.pinned (.plain (OpenSpec.upto jsonBackSpec)) jsonBackUptoCard

/-- THE SECOND FORM's CARD OF 'ostiarylaw09.JsonOrder'. -/
def jsonOrderUptoCard : Claim7 := { stood := { row := jsonOrderUptoRow, standIns := [], harness := (true, "35214b211c2839262fd1e323245d5173353062da96e00b29d893765a7b99eb7e"), looks := true }, kinds := [], alts := [], laidByText := true, laidKinds := [.data, .data, .data, .data, .handle, .sentinel, .sentinel, .pinned], laidTests := true, laidLooks := .later }
def JsonOrderUptoCardSaid : Prop := Claim7.holds Tryz.pinned (.plain (OpenSpec.upto jsonOrderSpec)) jsonOrderUptoCard

/-- THE SECOND FORM's CARD OF 'ostiarylaw09.JsonBlanks'. -/
def jsonBlanksUptoCard : Claim7 := { stood := { row := jsonBlanksUptoRow, standIns := [], harness := (true, "35214b211c2839262fd1e323245d5173353062da96e00b29d893765a7b99eb7e"), looks := true }, kinds := [], alts := [], laidByText := true, laidKinds := [.data, .data, .data, .data, .handle, .sentinel, .sentinel, .pinned], laidTests := true, laidLooks := .later }
def JsonBlanksUptoCardSaid : Prop := Claim7.holds Tryz.pinned (.plain (OpenSpec.upto jsonBlanksSpec)) jsonBlanksUptoCard

/-- THE SECOND FORM's CARD OF 'ostiarylaw09.JsonBuilt'. -/
def jsonBuiltUptoCard : Claim7 := { stood := { row := jsonBuiltUptoRow, standIns := [], harness := (true, "35214b211c2839262fd1e323245d5173353062da96e00b29d893765a7b99eb7e"), looks := true }, kinds := [], alts := [], laidByText := true, laidKinds := [.data, .data, .data, .data, .handle, .sentinel, .sentinel, .pinned], laidTests := true, laidLooks := .later }
def JsonBuiltUptoCardSaid : Prop := Claim7.holds Tryz.pinned (.plain (OpenSpec.upto jsonBuiltSpec)) jsonBuiltUptoCard

/-- THE SECOND FORM's CARD OF 'ostiarylaw09.JsonUnits'. -/
def jsonUnitsUptoCard : Claim7 := { stood := { row := jsonUnitsUptoRow, standIns := [], harness := (true, "35214b211c2839262fd1e323245d5173353062da96e00b29d893765a7b99eb7e"), looks := true }, kinds := [], alts := [], laidByText := true, laidKinds := [.data, .data, .data, .data, .handle, .sentinel, .sentinel, .pinned], laidTests := true, laidLooks := .later }
def JsonUnitsUptoCardSaid : Prop := Claim7.holds Tryz.pinned (.plain (OpenSpec.upto jsonUnitsSpec)) jsonUnitsUptoCard
end Rows
end Go.Proofs.YteeijmfnjcddmaaGreatDoor
