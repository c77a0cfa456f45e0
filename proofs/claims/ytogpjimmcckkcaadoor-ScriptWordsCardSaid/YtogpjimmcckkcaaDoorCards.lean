/-
  DERIVED. GIVEN WITH THE SEED: THE CARDS: each row of YtogpjimmcckkcaaDoorRows.lean that lists a variable, with what it lists TIED to the program's text (the seventh form; the later family's looks); each row that meets fmt, with fmt's text TOLD by the authors' own Lean function (tested against real Go, not proved from fmt's source: count such statements apart). THE CARD IS WHAT COUNTS. Prove the row's statement (the work); the ties are given (YtogpjimmcckkcaaDoorTie.lean); close each card by the builder's one call (the guide's Derived/Test/ToyasCard.lean, 'card_holds'). Laid BY PROGRAM, IN A SANDBOX (cutbox-door.mjs). By AI agents, Wed Nov 11 2026. No macro, syntax, notation, axiom, sorry.
-/
import Derived.Test.YtogpjimmcckkcaaDoorRows
import GoSem.ClaimSeven
namespace Go.Proofs.YtogpjimmcckkcaaDoor
namespace Rows

/-- THE TIED CARD OF 'turnspitlaw33.ScriptInstr'. -/
def scriptInstrCard : Claim7 := { stood := { row := scriptInstrRow, standIns := [], harness := (true, "72516182f866599e6a4b1ec99276f197a6c0dedf8716f4afeb1835bf88e152db"), looks := true }, kinds := [], alts := [], laidByText := true, laidKinds := [.data, .data, .data], laidTests := true, laidLooks := .later }
def ScriptInstrCardSaid : Prop := Claim7.holds Tryd.pinned (.plain (OpenSpec.ofChange scriptInstrSpec)) scriptInstrCard

/-- THE TIED CARD OF 'turnspitlaw34.ReportLines'. -/
def reportLinesCard : Claim7 := { stood := { row := reportLinesRow, standIns := [], harness := (true, "72516182f866599e6a4b1ec99276f197a6c0dedf8716f4afeb1835bf88e152db"), looks := true }, kinds := [], alts := [], laidByText := true, laidKinds := [.data, .data, .data, .data, .sentinel, .sentinel, .data, .pinned], laidTests := true, laidLooks := .later }
def ReportLinesCardSaid : Prop := Claim7.holds Tryd.pinned (.plain (OpenSpec.ofChange reportLinesSpec)) reportLinesCard

/-- THE TIED CARD OF 'turnspitlaw34.ReportReads'. -/
def reportReadsCard : Claim7 := { stood := { row := reportReadsRow, standIns := [], harness := (true, "72516182f866599e6a4b1ec99276f197a6c0dedf8716f4afeb1835bf88e152db"), looks := true }, kinds := [], alts := [], laidByText := true, laidKinds := [.data, .data, .data, .data, .sentinel, .sentinel, .data, .pinned], laidTests := true, laidLooks := .later }
def ReportReadsCardSaid : Prop := Claim7.holds Tryd.pinned (.plain (OpenSpec.ofChange reportReadsSpec)) reportReadsCard

/-- THE TIED CARD OF 'turnspitlaw34.ReportOf'. -/
def reportOfCard : Claim7 := { stood := { row := reportOfRow, standIns := [], harness := (true, "72516182f866599e6a4b1ec99276f197a6c0dedf8716f4afeb1835bf88e152db"), looks := true }, kinds := [], alts := [], laidByText := true, laidKinds := [.data, .data, .data, .data, .sentinel, .sentinel, .data, .pinned], laidTests := true, laidLooks := .later }
def ReportOfCardSaid : Prop := Claim7.holds Tryd.pinned (.plain (OpenSpec.ofChange reportOfSpec)) reportOfCard

/-- THE TIED CARD OF 'turnspitlaw34.ReportWrites'. -/
def reportWritesCard : Claim7 := { stood := { row := reportWritesRow, standIns := [], harness := (true, "72516182f866599e6a4b1ec99276f197a6c0dedf8716f4afeb1835bf88e152db"), looks := true }, kinds := [], alts := [], laidByText := true, laidKinds := [.data, .data, .data, .data, .sentinel, .sentinel, .data, .pinned], laidTests := true, laidLooks := .later }
def ReportWritesCardSaid : Prop := Claim7.holds Tryd.pinned (.plain (OpenSpec.ofChange reportWritesSpec)) reportWritesCard

/-- THE TIED CARD OF 'turnspitlaw33.ScriptWrites'. -/
def scriptWritesCard : Claim7 := { stood := { row := scriptWritesRow, standIns := [], harness := (true, "72516182f866599e6a4b1ec99276f197a6c0dedf8716f4afeb1835bf88e152db"), looks := true }, kinds := [], alts := [], laidByText := true, laidKinds := [.data, .data, .data, .data, .sentinel, .sentinel, .pinned], laidTests := true, laidLooks := .later }
def ScriptWritesCardSaid : Prop := Claim7.holds Tryd.pinned (.plain (OpenSpec.ofChange scriptWritesSpec)) scriptWritesCard

/-- THE TIED CARD OF 'turnspitlaw33.ScriptReads'. -/
def scriptReadsCard : Claim7 := { stood := { row := scriptReadsRow, standIns := [], harness := (true, "72516182f866599e6a4b1ec99276f197a6c0dedf8716f4afeb1835bf88e152db"), looks := true }, kinds := [], alts := [], laidByText := true, laidKinds := [.data, .data, .data, .data, .sentinel, .sentinel, .pinned], laidTests := true, laidLooks := .later }
def ScriptReadsCardSaid : Prop := Claim7.holds Tryd.pinned (.plain (OpenSpec.ofChange scriptReadsSpec)) scriptReadsCard

/-- THE TIED CARD OF 'turnspitlaw33.ScriptForm'. -/
def scriptFormCard : Claim7 := { stood := { row := scriptFormRow, standIns := [], harness := (true, "72516182f866599e6a4b1ec99276f197a6c0dedf8716f4afeb1835bf88e152db"), looks := true }, kinds := [], alts := [], laidByText := true, laidKinds := [.data, .data, .data, .data, .sentinel, .sentinel, .pinned], laidTests := true, laidLooks := .later }
def ScriptFormCardSaid : Prop := Claim7.holds Tryd.pinned (.plain (OpenSpec.ofChange scriptFormSpec)) scriptFormCard

/-- THE TIED CARD OF 'turnspitlaw33.ScriptPrograms'. -/
def scriptProgramsCard : Claim7 := { stood := { row := scriptProgramsRow, standIns := [], harness := (true, "72516182f866599e6a4b1ec99276f197a6c0dedf8716f4afeb1835bf88e152db"), looks := true }, kinds := [], alts := [], laidByText := true, laidKinds := [.data, .data, .data, .data, .sentinel, .sentinel, .pinned], laidTests := true, laidLooks := .later }
def ScriptProgramsCardSaid : Prop := Claim7.holds Tryd.pinned (.plain (OpenSpec.ofChange scriptProgramsSpec)) scriptProgramsCard

/-- THE TIED CARD OF 'turnspitlaw33.ScriptWords'. -/
def scriptWordsCard : Claim7 := { stood := { row := scriptWordsRow, standIns := [], harness := (true, "72516182f866599e6a4b1ec99276f197a6c0dedf8716f4afeb1835bf88e152db"), looks := true }, kinds := [], alts := [], laidByText := true, laidKinds := [.data, .data, .data, .data, .sentinel, .sentinel, .pinned], laidTests := true, laidLooks := .later }
def ScriptWordsCardSaid : Prop := Claim7.holds Tryd.pinned (.plain (OpenSpec.ofChange scriptWordsSpec)) scriptWordsCard

/-- THE SECOND FORM's CARD OF 'turnspitlaw33.ScriptInstr'. -/
def scriptInstrUptoCard : Claim7 := { stood := { row := scriptInstrUptoRow, standIns := [], harness := (true, "72516182f866599e6a4b1ec99276f197a6c0dedf8716f4afeb1835bf88e152db"), looks := true }, kinds := [], alts := [], laidByText := true, laidKinds := [.data, .data, .data], laidTests := true, laidLooks := .later }
def ScriptInstrUptoCardSaid : Prop := Claim7.holds Tryd.pinned (.plain (OpenSpec.upto scriptInstrSpec)) scriptInstrUptoCard

/-- THE SECOND FORM's CARD OF 'turnspitlaw34.ReportLines'. -/
def reportLinesUptoCard : Claim7 := { stood := { row := reportLinesUptoRow, standIns := [], harness := (true, "72516182f866599e6a4b1ec99276f197a6c0dedf8716f4afeb1835bf88e152db"), looks := true }, kinds := [], alts := [], laidByText := true, laidKinds := [.data, .data, .data, .data, .sentinel, .sentinel, .data, .pinned], laidTests := true, laidLooks := .later }
def ReportLinesUptoCardSaid : Prop := Claim7.holds Tryd.pinned (.plain (OpenSpec.upto reportLinesSpec)) reportLinesUptoCard

/-- THE SECOND FORM's CARD OF 'turnspitlaw34.ReportReads'. -/
def reportReadsUptoCard : Claim7 := { stood := { row := reportReadsUptoRow, standIns := [], harness := (true, "72516182f866599e6a4b1ec99276f197a6c0dedf8716f4afeb1835bf88e152db"), looks := true }, kinds := [], alts := [], laidByText := true, laidKinds := [.data, .data, .data, .data, .sentinel, .sentinel, .data, .pinned], laidTests := true, laidLooks := .later }
def ReportReadsUptoCardSaid : Prop := Claim7.holds Tryd.pinned (.plain (OpenSpec.upto reportReadsSpec)) reportReadsUptoCard

/-- THE SECOND FORM's CARD OF 'turnspitlaw34.ReportOf'. -/
def reportOfUptoCard : Claim7 := { stood := { row := reportOfUptoRow, standIns := [], harness := (true, "72516182f866599e6a4b1ec99276f197a6c0dedf8716f4afeb1835bf88e152db"), looks := true }, kinds := [], alts := [], laidByText := true, laidKinds := [.data, .data, .data, .data, .sentinel, .sentinel, .data, .pinned], laidTests := true, laidLooks := .later }
def ReportOfUptoCardSaid : Prop := Claim7.holds Tryd.pinned (.plain (OpenSpec.upto reportOfSpec)) reportOfUptoCard

/-- THE SECOND FORM's CARD OF 'turnspitlaw34.ReportWrites'. -/
def reportWritesUptoCard : Claim7 := { stood := { row := reportWritesUptoRow, standIns := [], harness := (true, "72516182f866599e6a4b1ec99276f197a6c0dedf8716f4afeb1835bf88e152db"), looks := true }, kinds := [], alts := [], laidByText := true, laidKinds := [.data, .data, .data, .data, .sentinel, .sentinel, .data, .pinned], laidTests := true, laidLooks := .later }
def ReportWritesUptoCardSaid : Prop := Claim7.holds Tryd.pinned (.plain (OpenSpec.upto reportWritesSpec)) reportWritesUptoCard

/-- THE SECOND FORM's CARD OF 'turnspitlaw33.ScriptWrites'. -/
def scriptWritesUptoCard : Claim7 := { stood := { row := scriptWritesUptoRow, standIns := [], harness := (true, "72516182f866599e6a4b1ec99276f197a6c0dedf8716f4afeb1835bf88e152db"), looks := true }, kinds := [], alts := [], laidByText := true, laidKinds := [.data, .data, .data, .data, .sentinel, .sentinel, .pinned], laidTests := true, laidLooks := .later }
def ScriptWritesUptoCardSaid : Prop := Claim7.holds Tryd.pinned (.plain (OpenSpec.upto scriptWritesSpec)) scriptWritesUptoCard

/-- THE SECOND FORM's CARD OF 'turnspitlaw33.ScriptReads'. -/
def scriptReadsUptoCard : Claim7 := { stood := { row := scriptReadsUptoRow, standIns := [], harness := (true, "72516182f866599e6a4b1ec99276f197a6c0dedf8716f4afeb1835bf88e152db"), looks := true }, kinds := [], alts := [], laidByText := true, laidKinds := [.data, .data, .data, .data, .sentinel, .sentinel, .pinned], laidTests := true, laidLooks := .later }
def ScriptReadsUptoCardSaid : Prop := Claim7.holds Tryd.pinned (.plain (OpenSpec.upto scriptReadsSpec)) scriptReadsUptoCard

/-- THE SECOND FORM's CARD OF 'turnspitlaw33.ScriptForm'. -/
def scriptFormUptoCard : Claim7 := { stood := { row := scriptFormUptoRow, standIns := [], harness := (true, "72516182f866599e6a4b1ec99276f197a6c0dedf8716f4afeb1835bf88e152db"), looks := true }, kinds := [], alts := [], laidByText := true, laidKinds := [.data, .data, .data, .data, .sentinel, .sentinel, .pinned], laidTests := true, laidLooks := .later }
def ScriptFormUptoCardSaid : Prop := Claim7.holds Tryd.pinned (.plain (OpenSpec.upto scriptFormSpec)) scriptFormUptoCard

/-- THE SECOND FORM's CARD OF 'turnspitlaw33.ScriptPrograms'. -/
def scriptProgramsUptoCard : Claim7 := { stood := { row := scriptProgramsUptoRow, standIns := [], harness := (true, "72516182f866599e6a4b1ec99276f197a6c0dedf8716f4afeb1835bf88e152db"), looks := true }, kinds := [], alts := [], laidByText := true, laidKinds := [.data, .data, .data, .data, .sentinel, .sentinel, .pinned], laidTests := true, laidLooks := .later }
def ScriptProgramsUptoCardSaid : Prop := Claim7.holds Tryd.pinned (.plain (OpenSpec.upto scriptProgramsSpec)) scriptProgramsUptoCard

/-- THE SECOND FORM's CARD OF 'turnspitlaw33.ScriptWords'. -/
def scriptWordsUptoCard : Claim7 := { stood := { row := scriptWordsUptoRow, standIns := [], harness := (true, "72516182f866599e6a4b1ec99276f197a6c0dedf8716f4afeb1835bf88e152db"), looks := true }, kinds := [], alts := [], laidByText := true, laidKinds := [.data, .data, .data, .data, .sentinel, .sentinel, .pinned], laidTests := true, laidLooks := .later }
def ScriptWordsUptoCardSaid : Prop := Claim7.holds Tryd.pinned (.plain (OpenSpec.upto scriptWordsSpec)) scriptWordsUptoCard
end Rows
end Go.Proofs.YtogpjimmcckkcaaDoor
