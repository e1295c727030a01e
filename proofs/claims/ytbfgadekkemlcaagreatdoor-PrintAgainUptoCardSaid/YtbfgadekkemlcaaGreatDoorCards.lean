/-
  DERIVED. GIVEN WITH THE SEED: THE CARDS: each row of YtbfgadekkemlcaaGreatDoorRows.lean that lists a variable, with what it lists TIED to the program's text (the seventh form; the later family's looks); each row that meets fmt, with fmt's text TOLD by the authors' own Lean function (tested against real Go, not proved from fmt's source: count such statements apart). THE CARD IS WHAT COUNTS. Prove the row's statement (the work); the ties are given (YtbfgadekkemlcaaGreatDoorTie.lean); close each card by the builder's one call (the guide's Derived/Test/ToyasCard.lean, 'card_holds'). Laid BY PROGRAM, IN A SANDBOX (cutbox-door.mjs). By AI agents, Wed Nov 11 2026. No macro, syntax, notation, axiom, sorry.
-/
import Derived.Test.YtbfgadekkemlcaaGreatDoorRows
import GoSem.ClaimSeven
namespace Go.Proofs.YtbfgadekkemlcaaGreatDoor
namespace Rows

/-- THE TIED CARD OF 'kilnlaw15.PrintTells'. -/
def printTellsCard : Claim7 := { stood := { row := printTellsRow, standIns := [], harness := (true, "17eb7fcd577006aac272e2a9c2c8057c06b1afc4cc49af7a4912d56dbb491346"), looks := true }, kinds := [], alts := [], laidByText := true, laidKinds := [.data, .data, .data, .data, .data, .pinned], laidTests := true, laidLooks := .later }
def PrintTellsCardSaid : Prop := Claim7.holds Tryz.pinned (.plain (OpenSpec.ofChange printTellsSpec)) printTellsCard

/-- THE TIED CARD OF 'kilnlaw15.PrintUnlike'. -/
def printUnlikeCard : Claim7 := { stood := { row := printUnlikeRow, standIns := [], harness := (true, "17eb7fcd577006aac272e2a9c2c8057c06b1afc4cc49af7a4912d56dbb491346"), looks := true }, kinds := [], alts := [], laidByText := true, laidKinds := [.data, .data, .data, .data, .data, .pinned], laidTests := true, laidLooks := .later }
def PrintUnlikeCardSaid : Prop := Claim7.holds Tryz.pinned (.plain (OpenSpec.ofChange printUnlikeSpec)) printUnlikeCard

/-- THE TIED CARD OF 'kilnlaw15.PrintAgain'. -/
def printAgainCard : Claim7 := { stood := { row := printAgainRow, standIns := [], harness := (true, "17eb7fcd577006aac272e2a9c2c8057c06b1afc4cc49af7a4912d56dbb491346"), looks := true }, kinds := [], alts := [], laidByText := true, laidKinds := [.data, .data, .data, .data, .data, .pinned], laidTests := true, laidLooks := .later }
def PrintAgainCardSaid : Prop := Claim7.holds Tryz.pinned (.plain (OpenSpec.ofChange printAgainSpec)) printAgainCard

/-- THE TIED CARD OF 'kilnlaw12.ParseReads'. -/
def parseReadsCard : Claim7 := { stood := { row := parseReadsRow, standIns := [], harness := (true, "17eb7fcd577006aac272e2a9c2c8057c06b1afc4cc49af7a4912d56dbb491346"), looks := true }, kinds := [], alts := [], laidByText := true, laidKinds := [.data, .data, .data, .data, .pinned], laidTests := true, laidLooks := .later }
def ParseReadsCardSaid : Prop := Claim7.holds Tryz.pinned (.plain (OpenSpec.ofChange parseReadsSpec)) parseReadsCard

/-- THE TIED CARD OF 'kilnlaw12.ParseWrites'. -/
def parseWritesCard : Claim7 := { stood := { row := parseWritesRow, standIns := [], harness := (true, "17eb7fcd577006aac272e2a9c2c8057c06b1afc4cc49af7a4912d56dbb491346"), looks := true }, kinds := [], alts := [], laidByText := true, laidKinds := [.data, .data, .data, .data, .pinned], laidTests := true, laidLooks := .later }
def ParseWritesCardSaid : Prop := Claim7.holds Tryz.pinned (.plain (OpenSpec.ofChange parseWritesSpec)) parseWritesCard

/-- THE TIED CARD OF 'kilnlaw12.ParseMany'. -/
def parseManyCard : Claim7 := { stood := { row := parseManyRow, standIns := [], harness := (true, "17eb7fcd577006aac272e2a9c2c8057c06b1afc4cc49af7a4912d56dbb491346"), looks := true }, kinds := [], alts := [], laidByText := true, laidKinds := [.data, .data, .data, .data, .pinned], laidTests := true, laidLooks := .later }
def ParseManyCardSaid : Prop := Claim7.holds Tryz.pinned (.plain (OpenSpec.ofChange parseManySpec)) parseManyCard

/-- THE TIED CARD OF 'kilnlaw12.ParseBack'. -/
def parseBackCard : Claim7 := { stood := { row := parseBackRow, standIns := [], harness := (true, "17eb7fcd577006aac272e2a9c2c8057c06b1afc4cc49af7a4912d56dbb491346"), looks := true }, kinds := [], alts := [], laidByText := true, laidKinds := [.data, .data, .data, .data, .pinned], laidTests := true, laidLooks := .later }
def ParseBackCardSaid : Prop := Claim7.holds Tryz.pinned (.plain (OpenSpec.ofChange parseBackSpec)) parseBackCard

/-- THE TIED CARD OF 'kilnlaw12.ParseUnlike'. -/
def parseUnlikeCard : Claim7 := { stood := { row := parseUnlikeRow, standIns := [], harness := (true, "17eb7fcd577006aac272e2a9c2c8057c06b1afc4cc49af7a4912d56dbb491346"), looks := true }, kinds := [], alts := [], laidByText := true, laidKinds := [.data, .data, .data, .data, .pinned], laidTests := true, laidLooks := .later }
def ParseUnlikeCardSaid : Prop := Claim7.holds Tryz.pinned (.plain (OpenSpec.ofChange parseUnlikeSpec)) parseUnlikeCard

/-- THE TIED CARD OF 'kilnlaw12.ParseBlanks'. -/
def parseBlanksCard : Claim7 := { stood := { row := parseBlanksRow, standIns := [], harness := (true, "17eb7fcd577006aac272e2a9c2c8057c06b1afc4cc49af7a4912d56dbb491346"), looks := true }, kinds := [], alts := [], laidByText := true, laidKinds := [.data, .data, .data, .data, .pinned], laidTests := true, laidLooks := .later }
def ParseBlanksCardSaid : Prop := Claim7.holds Tryz.pinned (.plain (OpenSpec.ofChange parseBlanksSpec)) parseBlanksCard

/-- THE TIED CARD OF 'kilnlaw12.ParseSpelt'. -/
def parseSpeltCard : Claim7 := { stood := { row := parseSpeltRow, standIns := [], harness := (true, "17eb7fcd577006aac272e2a9c2c8057c06b1afc4cc49af7a4912d56dbb491346"), looks := true }, kinds := [], alts := [], laidByText := true, laidKinds := [.data, .data, .data, .data, .pinned], laidTests := true, laidLooks := .later }
def ParseSpeltCardSaid : Prop := Claim7.holds Tryz.pinned (.plain (OpenSpec.ofChange parseSpeltSpec)) parseSpeltCard

/-- THE TIED CARD OF 'kilnlaw12.ParseWord'. -/
def parseWordCard : Claim7 := { stood := { row := parseWordRow, standIns := [], harness := (true, "17eb7fcd577006aac272e2a9c2c8057c06b1afc4cc49af7a4912d56dbb491346"), looks := true }, kinds := [], alts := [], laidByText := true, laidKinds := [.data, .data, .data, .data, .pinned], laidTests := true, laidLooks := .later }
def ParseWordCardSaid : Prop := Claim7.holds Tryz.pinned (.plain (OpenSpec.ofChange parseWordSpec)) parseWordCard

/-- THE TIED CARD OF 'kilnlaw12.ParseAgain'. -/
def parseAgainCard : Claim7 := { stood := { row := parseAgainRow, standIns := [], harness := (true, "17eb7fcd577006aac272e2a9c2c8057c06b1afc4cc49af7a4912d56dbb491346"), looks := true }, kinds := [], alts := [], laidByText := true, laidKinds := [.data, .data, .data, .data, .pinned], laidTests := true, laidLooks := .later }
def ParseAgainCardSaid : Prop := Claim7.holds Tryz.pinned (.plain (OpenSpec.ofChange parseAgainSpec)) parseAgainCard

/-- THE TIED CARD OF 'kilnlaw12.ParseLent'. -/
def parseLentCard : Claim7 := { stood := { row := parseLentRow, standIns := [], harness := (true, "17eb7fcd577006aac272e2a9c2c8057c06b1afc4cc49af7a4912d56dbb491346"), looks := true }, kinds := [], alts := [], laidByText := true, laidKinds := [.data, .data, .data, .data, .pinned], laidTests := true, laidLooks := .later }
def ParseLentCardSaid : Prop := Claim7.holds Tryz.pinned (.plain (OpenSpec.ofChange parseLentSpec)) parseLentCard

/-- THE TIED CARD OF 'kilnlaw15.PrintWritten'. -/
def printWrittenCard : Claim7 := { stood := { row := printWrittenRow, standIns := [], harness := (true, "17eb7fcd577006aac272e2a9c2c8057c06b1afc4cc49af7a4912d56dbb491346"), looks := true }, kinds := [], alts := [], laidByText := true, laidKinds := [.data, .data, .data, .data, .data, .pinned], laidTests := true, laidLooks := .later }
def PrintWrittenCardSaid : Prop := Claim7.holds Tryz.pinned (.plain (OpenSpec.ofChange printWrittenSpec)) printWrittenCard

/-- THE SECOND FORM's CARD OF 'kilnlaw15.PrintTells'. -/
def printTellsUptoCard : Claim7 := { stood := { row := printTellsUptoRow, standIns := [], harness := (true, "17eb7fcd577006aac272e2a9c2c8057c06b1afc4cc49af7a4912d56dbb491346"), looks := true }, kinds := [], alts := [], laidByText := true, laidKinds := [.data, .data, .data, .data, .data, .pinned], laidTests := true, laidLooks := .later }
def PrintTellsUptoCardSaid : Prop := Claim7.holds Tryz.pinned (.plain (OpenSpec.upto printTellsSpec)) printTellsUptoCard

/-- THE SECOND FORM's CARD OF 'kilnlaw15.PrintUnlike'. -/
def printUnlikeUptoCard : Claim7 := { stood := { row := printUnlikeUptoRow, standIns := [], harness := (true, "17eb7fcd577006aac272e2a9c2c8057c06b1afc4cc49af7a4912d56dbb491346"), looks := true }, kinds := [], alts := [], laidByText := true, laidKinds := [.data, .data, .data, .data, .data, .pinned], laidTests := true, laidLooks := .later }
def PrintUnlikeUptoCardSaid : Prop := Claim7.holds Tryz.pinned (.plain (OpenSpec.upto printUnlikeSpec)) printUnlikeUptoCard

/-- THE SECOND FORM's CARD OF 'kilnlaw15.PrintAgain'. -/
def printAgainUptoCard : Claim7 := { stood := { row := printAgainUptoRow, standIns := [], harness := (true, "17eb7fcd577006aac272e2a9c2c8057c06b1afc4cc49af7a4912d56dbb491346"), looks := true }, kinds := [], alts := [], laidByText := true, laidKinds := [.data, .data, .data, .data, .data, .pinned], laidTests := true, laidLooks := .later }
def PrintAgainUptoCardSaid : Prop := Claim7.holds Tryz.pinned (.plain (OpenSpec.upto printAgainSpec)) printAgainUptoCard

/-- THE SECOND FORM's CARD OF 'kilnlaw12.ParseReads'. -/
def parseReadsUptoCard : Claim7 := { stood := { row := parseReadsUptoRow, standIns := [], harness := (true, "17eb7fcd577006aac272e2a9c2c8057c06b1afc4cc49af7a4912d56dbb491346"), looks := true }, kinds := [], alts := [], laidByText := true, laidKinds := [.data, .data, .data, .data, .pinned], laidTests := true, laidLooks := .later }
def ParseReadsUptoCardSaid : Prop := Claim7.holds Tryz.pinned (.plain (OpenSpec.upto parseReadsSpec)) parseReadsUptoCard

/-- THE SECOND FORM's CARD OF 'kilnlaw12.ParseWrites'. -/
def parseWritesUptoCard : Claim7 := { stood := { row := parseWritesUptoRow, standIns := [], harness := (true, "17eb7fcd577006aac272e2a9c2c8057c06b1afc4cc49af7a4912d56dbb491346"), looks := true }, kinds := [], alts := [], laidByText := true, laidKinds := [.data, .data, .data, .data, .pinned], laidTests := true, laidLooks := .later }
def ParseWritesUptoCardSaid : Prop := Claim7.holds Tryz.pinned (.plain (OpenSpec.upto parseWritesSpec)) parseWritesUptoCard

/-- THE SECOND FORM's CARD OF 'kilnlaw12.ParseMany'. -/
def parseManyUptoCard : Claim7 := { stood := { row := parseManyUptoRow, standIns := [], harness := (true, "17eb7fcd577006aac272e2a9c2c8057c06b1afc4cc49af7a4912d56dbb491346"), looks := true }, kinds := [], alts := [], laidByText := true, laidKinds := [.data, .data, .data, .data, .pinned], laidTests := true, laidLooks := .later }
def ParseManyUptoCardSaid : Prop := Claim7.holds Tryz.pinned (.plain (OpenSpec.upto parseManySpec)) parseManyUptoCard

/-- THE SECOND FORM's CARD OF 'kilnlaw12.ParseBack'. -/
def parseBackUptoCard : Claim7 := { stood := { row := parseBackUptoRow, standIns := [], harness := (true, "17eb7fcd577006aac272e2a9c2c8057c06b1afc4cc49af7a4912d56dbb491346"), looks := true }, kinds := [], alts := [], laidByText := true, laidKinds := [.data, .data, .data, .data, .pinned], laidTests := true, laidLooks := .later }
def ParseBackUptoCardSaid : Prop := Claim7.holds Tryz.pinned (.plain (OpenSpec.upto parseBackSpec)) parseBackUptoCard

/-- THE SECOND FORM's CARD OF 'kilnlaw12.ParseUnlike'. -/
def parseUnlikeUptoCard : Claim7 := { stood := { row := parseUnlikeUptoRow, standIns := [], harness := (true, "17eb7fcd577006aac272e2a9c2c8057c06b1afc4cc49af7a4912d56dbb491346"), looks := true }, kinds := [], alts := [], laidByText := true, laidKinds := [.data, .data, .data, .data, .pinned], laidTests := true, laidLooks := .later }
def ParseUnlikeUptoCardSaid : Prop := Claim7.holds Tryz.pinned (.plain (OpenSpec.upto parseUnlikeSpec)) parseUnlikeUptoCard

/-- THE SECOND FORM's CARD OF 'kilnlaw12.ParseBlanks'. -/
def parseBlanksUptoCard : Claim7 := { stood := { row := parseBlanksUptoRow, standIns := [], harness := (true, "17eb7fcd577006aac272e2a9c2c8057c06b1afc4cc49af7a4912d56dbb491346"), looks := true }, kinds := [], alts := [], laidByText := true, laidKinds := [.data, .data, .data, .data, .pinned], laidTests := true, laidLooks := .later }
def ParseBlanksUptoCardSaid : Prop := Claim7.holds Tryz.pinned (.plain (OpenSpec.upto parseBlanksSpec)) parseBlanksUptoCard

/-- THE SECOND FORM's CARD OF 'kilnlaw12.ParseSpelt'. -/
def parseSpeltUptoCard : Claim7 := { stood := { row := parseSpeltUptoRow, standIns := [], harness := (true, "17eb7fcd577006aac272e2a9c2c8057c06b1afc4cc49af7a4912d56dbb491346"), looks := true }, kinds := [], alts := [], laidByText := true, laidKinds := [.data, .data, .data, .data, .pinned], laidTests := true, laidLooks := .later }
def ParseSpeltUptoCardSaid : Prop := Claim7.holds Tryz.pinned (.plain (OpenSpec.upto parseSpeltSpec)) parseSpeltUptoCard

/-- THE SECOND FORM's CARD OF 'kilnlaw12.ParseWord'. -/
def parseWordUptoCard : Claim7 := { stood := { row := parseWordUptoRow, standIns := [], harness := (true, "17eb7fcd577006aac272e2a9c2c8057c06b1afc4cc49af7a4912d56dbb491346"), looks := true }, kinds := [], alts := [], laidByText := true, laidKinds := [.data, .data, .data, .data, .pinned], laidTests := true, laidLooks := .later }
def ParseWordUptoCardSaid : Prop := Claim7.holds Tryz.pinned (.plain (OpenSpec.upto parseWordSpec)) parseWordUptoCard

/-- THE SECOND FORM's CARD OF 'kilnlaw12.ParseAgain'. -/
def parseAgainUptoCard : Claim7 := { stood := { row := parseAgainUptoRow, standIns := [], harness := (true, "17eb7fcd577006aac272e2a9c2c8057c06b1afc4cc49af7a4912d56dbb491346"), looks := true }, kinds := [], alts := [], laidByText := true, laidKinds := [.data, .data, .data, .data, .pinned], laidTests := true, laidLooks := .later }
def ParseAgainUptoCardSaid : Prop := Claim7.holds Tryz.pinned (.plain (OpenSpec.upto parseAgainSpec)) parseAgainUptoCard

/-- THE SECOND FORM's CARD OF 'kilnlaw12.ParseLent'. -/
def parseLentUptoCard : Claim7 := { stood := { row := parseLentUptoRow, standIns := [], harness := (true, "17eb7fcd577006aac272e2a9c2c8057c06b1afc4cc49af7a4912d56dbb491346"), looks := true }, kinds := [], alts := [], laidByText := true, laidKinds := [.data, .data, .data, .data, .pinned], laidTests := true, laidLooks := .later }
def ParseLentUptoCardSaid : Prop := Claim7.holds Tryz.pinned (.plain (OpenSpec.upto parseLentSpec)) parseLentUptoCard

/-- THE SECOND FORM's CARD OF 'kilnlaw15.PrintWritten'. -/
def printWrittenUptoCard : Claim7 := { stood := { row := printWrittenUptoRow, standIns := [], harness := (true, "17eb7fcd577006aac272e2a9c2c8057c06b1afc4cc49af7a4912d56dbb491346"), looks := true }, kinds := [], alts := [], laidByText := true, laidKinds := [.data, .data, .data, .data, .data, .pinned], laidTests := true, laidLooks := .later }
def PrintWrittenUptoCardSaid : Prop := Claim7.holds Tryz.pinned (.plain (OpenSpec.upto printWrittenSpec)) printWrittenUptoCard
end Rows
end Go.Proofs.YtbfgadekkemlcaaGreatDoor
