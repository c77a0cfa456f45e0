/-
  No cell of these rows narrows 'for every input' (looked for: loops, veiled, ifaces, maps, wideKeys, modest, calm, conditions, laid).
  DERIVED. THE GIVEN ROWS OF THIS SEAT. 12 by the template 'for every input the law returns true; each argument reads behind the call as it read before'; 0 by the template 'total and deterministic' (their statements: YtkmfbafgbaapiaaTotals.lean).
  GIVEN WITH THE SEED: the statements are not yours to turn. If you find one false, say at which input.
  Laid BY PROGRAM, IN A SANDBOX (cutbox-rows.mjs): the forced cells as the released guide's own fill.sh prints them over the translation 514ece3f2d5ac4d6… (all of the seat's roots in one cut). By AI agents, Wed Nov 11 2026. No macro, syntax, notation, axiom, sorry.
-/
import Derived.Test.YtkmfbafgbaapiaaChecked
import GoSem.Claim
import GoSem.ClaimJoined
import GoSem.ClaimMapViews
import Derived.JoinedTies
import Derived.KernelRfl
namespace Go.Proofs.Ytkmfbafgbaapiaa
/- THE CELL 'sum', in the pinned program and in every row, IS THE sha256 OF THE DUMP (.gsa) THAT YtkmfbafgbaapiaaProg.lean LOADS. Nothing in Lean hashes anything: it is a label: what it is worth is what the hold of that sum in a sandbox is worth. -/
noncomputable def Try.pinned : Pinned := { name := "ytkmfbafgbaapiaa", sum := "514ece3f2d5ac4d6b4909c1c9fbbf85a322f9558b5374468cb84c5fa4de3a331", checked := Try.checked }
namespace Rows
def none {H : Type} : Left H := { results := [], args := [] }

/-- 'turnspitlaw01.WordBits': WHATEVER THE INPUT: true; the input reads as it did. -/
def wordBitsSpec : ChangeSpec := { name := "wordBits", fn := fun _ => fun
  | [d1, d2, d3] => { results := [.lit (.bool true)], args := [d1, d2, d3] }
  | _ => none }
def wordBitsRow : OpenClaim := { program := "ytkmfbafgbaapiaa", sum := "514ece3f2d5ac4d6b4909c1c9fbbf85a322f9558b5374468cb84c5fa4de3a331", func := "turnspit/turnspitlaw01.WordBits", spec := "wordBits", plainKeys := false, apart := false }
def WordBitsSaid : Prop := wordBitsRow.holds Try.pinned (OpenSpec.ofChange wordBitsSpec)

/-- ITS FALSE NEIGHBOUR: 'it returns false'. Refute it at one input. -/
def wordBitsWrong : ChangeSpec := { name := "wordBits", fn := fun _ => fun
  | [d1, d2, d3] => { results := [.lit (.bool false)], args := [d1, d2, d3] }
  | _ => none }
def WordBitsWrongFalsely : Prop := wordBitsRow.holds Try.pinned (OpenSpec.ofChange wordBitsWrong)

/-- 'turnspitlaw01.WordReads': WHATEVER THE INPUT: true; the input reads as it did. -/
def wordReadsSpec : ChangeSpec := { name := "wordReads", fn := fun _ => fun
  | [d1, d2] => { results := [.lit (.bool true)], args := [d1, d2] }
  | _ => none }
def wordReadsRow : OpenClaim := { program := "ytkmfbafgbaapiaa", sum := "514ece3f2d5ac4d6b4909c1c9fbbf85a322f9558b5374468cb84c5fa4de3a331", func := "turnspit/turnspitlaw01.WordReads", spec := "wordReads", plainKeys := false, apart := false }
def WordReadsSaid : Prop := wordReadsRow.holds Try.pinned (OpenSpec.ofChange wordReadsSpec)

/-- ITS FALSE NEIGHBOUR: 'it returns false'. Refute it at one input. -/
def wordReadsWrong : ChangeSpec := { name := "wordReads", fn := fun _ => fun
  | [d1, d2] => { results := [.lit (.bool false)], args := [d1, d2] }
  | _ => none }
def WordReadsWrongFalsely : Prop := wordReadsRow.holds Try.pinned (OpenSpec.ofChange wordReadsWrong)

/-- 'turnspitlaw01.WordWrites': WHATEVER THE INPUT: true; the input reads as it did. -/
def wordWritesSpec : ChangeSpec := { name := "wordWrites", fn := fun _ => fun
  | [d1, d2] => { results := [.lit (.bool true)], args := [d1, d2] }
  | _ => none }
def wordWritesRow : OpenClaim := { program := "ytkmfbafgbaapiaa", sum := "514ece3f2d5ac4d6b4909c1c9fbbf85a322f9558b5374468cb84c5fa4de3a331", func := "turnspit/turnspitlaw01.WordWrites", spec := "wordWrites", plainKeys := false, apart := false }
def WordWritesSaid : Prop := wordWritesRow.holds Try.pinned (OpenSpec.ofChange wordWritesSpec)

/-- ITS FALSE NEIGHBOUR: 'it returns false'. Refute it at one input. -/
def wordWritesWrong : ChangeSpec := { name := "wordWrites", fn := fun _ => fun
  | [d1, d2] => { results := [.lit (.bool false)], args := [d1, d2] }
  | _ => none }
def WordWritesWrongFalsely : Prop := wordWritesRow.holds Try.pinned (OpenSpec.ofChange wordWritesWrong)

/-- 'turnspitlaw01.WordAll': WHATEVER THE INPUT: true; the input reads as it did. -/
def wordAllSpec : ChangeSpec := { name := "wordAll", fn := fun _ => fun
  | [d1, d2, d3] => { results := [.lit (.bool true)], args := [d1, d2, d3] }
  | _ => none }
def wordAllRow : OpenClaim := { program := "ytkmfbafgbaapiaa", sum := "514ece3f2d5ac4d6b4909c1c9fbbf85a322f9558b5374468cb84c5fa4de3a331", func := "turnspit/turnspitlaw01.WordAll", spec := "wordAll", plainKeys := false, apart := false }
def WordAllSaid : Prop := wordAllRow.holds Try.pinned (OpenSpec.ofChange wordAllSpec)

/-- ITS FALSE NEIGHBOUR: 'it returns false'. Refute it at one input. -/
def wordAllWrong : ChangeSpec := { name := "wordAll", fn := fun _ => fun
  | [d1, d2, d3] => { results := [.lit (.bool false)], args := [d1, d2, d3] }
  | _ => none }
def WordAllWrongFalsely : Prop := wordAllRow.holds Try.pinned (OpenSpec.ofChange wordAllWrong)

/-- 'turnspitlaw03.CellAdds': WHATEVER THE INPUT: true; the input reads as it did. -/
def cellAddsSpec : ChangeSpec := { name := "cellAdds", fn := fun _ => fun
  | [d1, d2, d3] => { results := [.lit (.bool true)], args := [d1, d2, d3] }
  | _ => none }
def cellAddsRow : OpenClaim := { program := "ytkmfbafgbaapiaa", sum := "514ece3f2d5ac4d6b4909c1c9fbbf85a322f9558b5374468cb84c5fa4de3a331", func := "turnspit/turnspitlaw03.CellAdds", spec := "cellAdds", unfollowed := true, recurses := true, plainKeys := false, apart := false }
def CellAddsSaid : Prop := cellAddsRow.holds Try.pinned (OpenSpec.ofChange cellAddsSpec)

/-- ITS FALSE NEIGHBOUR: 'it returns false'. Refute it at one input. -/
def cellAddsWrong : ChangeSpec := { name := "cellAdds", fn := fun _ => fun
  | [d1, d2, d3] => { results := [.lit (.bool false)], args := [d1, d2, d3] }
  | _ => none }
def CellAddsWrongFalsely : Prop := cellAddsRow.holds Try.pinned (OpenSpec.ofChange cellAddsWrong)

/-- 'turnspitlaw32.FairWindows': WHATEVER THE INPUT: true; the input reads as it did. -/
def fairWindowsSpec : ChangeSpec := { name := "fairWindows", fn := fun _ => fun
  | [d1, d2] => { results := [.lit (.bool true)], args := [d1, d2] }
  | _ => none }
def fairWindowsRow : OpenClaim := { program := "ytkmfbafgbaapiaa", sum := "514ece3f2d5ac4d6b4909c1c9fbbf85a322f9558b5374468cb84c5fa4de3a331", func := "turnspit/turnspitlaw32.FairWindows", spec := "fairWindows", plainKeys := false, apart := false }
def FairWindowsSaid : Prop := fairWindowsRow.holds Try.pinned (OpenSpec.ofChange fairWindowsSpec)

/-- ITS FALSE NEIGHBOUR: 'it returns false'. Refute it at one input. -/
def fairWindowsWrong : ChangeSpec := { name := "fairWindows", fn := fun _ => fun
  | [d1, d2] => { results := [.lit (.bool false)], args := [d1, d2] }
  | _ => none }
def FairWindowsWrongFalsely : Prop := fairWindowsRow.holds Try.pinned (OpenSpec.ofChange fairWindowsWrong)

/-- 'turnspitlaw32.FairRounds': WHATEVER THE INPUT: true; the input reads as it did. -/
def fairRoundsSpec : ChangeSpec := { name := "fairRounds", fn := fun _ => fun
  | [d1, d2] => { results := [.lit (.bool true)], args := [d1, d2] }
  | _ => none }
def fairRoundsRow : OpenClaim := { program := "ytkmfbafgbaapiaa", sum := "514ece3f2d5ac4d6b4909c1c9fbbf85a322f9558b5374468cb84c5fa4de3a331", func := "turnspit/turnspitlaw32.FairRounds", spec := "fairRounds", plainKeys := false, apart := false }
def FairRoundsSaid : Prop := fairRoundsRow.holds Try.pinned (OpenSpec.ofChange fairRoundsSpec)

/-- ITS FALSE NEIGHBOUR: 'it returns false'. Refute it at one input. -/
def fairRoundsWrong : ChangeSpec := { name := "fairRounds", fn := fun _ => fun
  | [d1, d2] => { results := [.lit (.bool false)], args := [d1, d2] }
  | _ => none }
def FairRoundsWrongFalsely : Prop := fairRoundsRow.holds Try.pinned (OpenSpec.ofChange fairRoundsWrong)

/-- 'turnspitlaw35.CensusCounts': WHATEVER THE INPUT: true; the input reads as it did. -/
def censusCountsSpec : ChangeSpec := { name := "censusCounts", fn := fun _ => fun
  | [d1, d2] => { results := [.lit (.bool true)], args := [d1, d2] }
  | _ => none }
def censusCountsRow : OpenClaim := { program := "ytkmfbafgbaapiaa", sum := "514ece3f2d5ac4d6b4909c1c9fbbf85a322f9558b5374468cb84c5fa4de3a331", func := "turnspit/turnspitlaw35.CensusCounts", spec := "censusCounts", plainKeys := false, apart := false }
def CensusCountsSaid : Prop := censusCountsRow.holds Try.pinned (OpenSpec.ofChange censusCountsSpec)

/-- ITS FALSE NEIGHBOUR: 'it returns false'. Refute it at one input. -/
def censusCountsWrong : ChangeSpec := { name := "censusCounts", fn := fun _ => fun
  | [d1, d2] => { results := [.lit (.bool false)], args := [d1, d2] }
  | _ => none }
def CensusCountsWrongFalsely : Prop := censusCountsRow.holds Try.pinned (OpenSpec.ofChange censusCountsWrong)

/-- 'turnspitlaw32.FairBound': WHATEVER THE INPUT: true; the input reads as it did. -/
def fairBoundSpec : ChangeSpec := { name := "fairBound", fn := fun _ => fun
  | [d1, d2] => { results := [.lit (.bool true)], args := [d1, d2] }
  | _ => none }
def fairBoundRow : OpenClaim := { program := "ytkmfbafgbaapiaa", sum := "514ece3f2d5ac4d6b4909c1c9fbbf85a322f9558b5374468cb84c5fa4de3a331", func := "turnspit/turnspitlaw32.FairBound", spec := "fairBound", plainKeys := false, apart := false }
def FairBoundSaid : Prop := fairBoundRow.holds Try.pinned (OpenSpec.ofChange fairBoundSpec)

/-- ITS FALSE NEIGHBOUR: 'it returns false'. Refute it at one input. -/
def fairBoundWrong : ChangeSpec := { name := "fairBound", fn := fun _ => fun
  | [d1, d2] => { results := [.lit (.bool false)], args := [d1, d2] }
  | _ => none }
def FairBoundWrongFalsely : Prop := fairBoundRow.holds Try.pinned (OpenSpec.ofChange fairBoundWrong)

/-- 'turnspitlaw03.CellSwaps': WHATEVER THE INPUT: true; the input reads as it did. -/
def cellSwapsSpec : ChangeSpec := { name := "cellSwaps", fn := fun _ => fun
  | [d1, d2, d3] => { results := [.lit (.bool true)], args := [d1, d2, d3] }
  | _ => none }
def cellSwapsRow : OpenClaim := { program := "ytkmfbafgbaapiaa", sum := "514ece3f2d5ac4d6b4909c1c9fbbf85a322f9558b5374468cb84c5fa4de3a331", func := "turnspit/turnspitlaw03.CellSwaps", spec := "cellSwaps", unfollowed := true, recurses := true, plainKeys := false, apart := false }
def CellSwapsSaid : Prop := cellSwapsRow.holds Try.pinned (OpenSpec.ofChange cellSwapsSpec)

/-- ITS FALSE NEIGHBOUR: 'it returns false'. Refute it at one input. -/
def cellSwapsWrong : ChangeSpec := { name := "cellSwaps", fn := fun _ => fun
  | [d1, d2, d3] => { results := [.lit (.bool false)], args := [d1, d2, d3] }
  | _ => none }
def CellSwapsWrongFalsely : Prop := cellSwapsRow.holds Try.pinned (OpenSpec.ofChange cellSwapsWrong)

/-- 'turnspitlaw06.CodeInstr': WHATEVER THE INPUT: true; the input reads as it did. -/
def codeInstrSpec : ChangeSpec := { name := "codeInstr", fn := fun _ => fun
  | [d1, d2] => { results := [.lit (.bool true)], args := [d1, d2] }
  | _ => none }
def codeInstrRow : OpenClaim := { program := "ytkmfbafgbaapiaa", sum := "514ece3f2d5ac4d6b4909c1c9fbbf85a322f9558b5374468cb84c5fa4de3a331", func := "turnspit/turnspitlaw06.CodeInstr", spec := "codeInstr", unfollowed := true, recurses := true, plainKeys := false, apart := false }
def CodeInstrSaid : Prop := codeInstrRow.holds Try.pinned (OpenSpec.ofChange codeInstrSpec)

/-- ITS FALSE NEIGHBOUR: 'it returns false'. Refute it at one input. -/
def codeInstrWrong : ChangeSpec := { name := "codeInstr", fn := fun _ => fun
  | [d1, d2] => { results := [.lit (.bool false)], args := [d1, d2] }
  | _ => none }
def CodeInstrWrongFalsely : Prop := codeInstrRow.holds Try.pinned (OpenSpec.ofChange codeInstrWrong)

/-- 'turnspitlaw06.CodeMost': WHATEVER THE INPUT: true; the input reads as it did. -/
def codeMostSpec : ChangeSpec := { name := "codeMost", fn := fun _ => fun
  | [d1, d2] => { results := [.lit (.bool true)], args := [d1, d2] }
  | _ => none }
def codeMostRow : OpenClaim := { program := "ytkmfbafgbaapiaa", sum := "514ece3f2d5ac4d6b4909c1c9fbbf85a322f9558b5374468cb84c5fa4de3a331", func := "turnspit/turnspitlaw06.CodeMost", spec := "codeMost", unfollowed := true, recurses := true, plainKeys := false, apart := false }
def CodeMostSaid : Prop := codeMostRow.holds Try.pinned (OpenSpec.ofChange codeMostSpec)

/-- ITS FALSE NEIGHBOUR: 'it returns false'. Refute it at one input. -/
def codeMostWrong : ChangeSpec := { name := "codeMost", fn := fun _ => fun
  | [d1, d2] => { results := [.lit (.bool false)], args := [d1, d2] }
  | _ => none }
def CodeMostWrongFalsely : Prop := codeMostRow.holds Try.pinned (OpenSpec.ofChange codeMostWrong)

/- THE SECOND FORM. 'bulk': how many values and letters a reading holds, each counted each time it is reached (what is shared counts as often as it is met; a slice's spare places count too). A statement '..UptoSaid' is the law's where the arguments, and the package variables that the reading takes, are together of bulk at most 1048576: NARROWER than '..Said'. Prove '..Said' where nothing that the law and all that it calls make is longer than what came in: it says more and counts as full. Else prove '..UptoSaid'. A law counts once. -/
mutual
def uptoBulk {H : Type} : DataW H → Nat
  | .lit (.string bytes) => bytes.length + 1
  | .lit _ => 1
  | .nil => 1
  | .ptr d => uptoBulk d + 1
  | .slice elems spare => uptoBulkAll elems + uptoBulkAll spare + 1
  | .agg parts => uptoBulkAll parts + 1
  | .iface _ d => uptoBulk d + 1
  | .map entries => uptoBulkEntries entries + 1
  | .held _ => 1
def uptoBulkAll {H : Type} : List (DataW H) → Nat
  | [] => 0
  | d :: r => uptoBulk d + uptoBulkAll r
def uptoBulkEntries {H : Type} : List (Lit × DataW H) → Nat
  | [] => 0
  | x :: r => uptoBulkEntry x + uptoBulkEntries r
def uptoBulkEntry {H : Type} : Lit × DataW H → Nat
  | (.string bytes, d) => bytes.length + uptoBulk d + 1
  | (_, d) => uptoBulk d + 1
 end
def uptoSmall : (H : Type) → List (DataW H) → Bool := fun _ ds => decide (uptoBulkAll ds ≤ 1048576)
def OpenSpec.upto (s : _root_.Go.ChangeSpec) : _root_.Go.OpenSpec := { _root_.Go.OpenSpec.ofChange s with cond := some uptoSmall }

/-- 'turnspitlaw01.WordBits', WHERE WHAT IT READS IS OF BULK AT MOST 1048576: true; the input reads as it did. -/
def wordBitsUptoRow : OpenClaim := { program := "ytkmfbafgbaapiaa", sum := "514ece3f2d5ac4d6b4909c1c9fbbf85a322f9558b5374468cb84c5fa4de3a331", func := "turnspit/turnspitlaw01.WordBits", spec := "wordBits", plainKeys := false, apart := false, narrowed := true }
def WordBitsUptoSaid : Prop := wordBitsUptoRow.holds Try.pinned (OpenSpec.upto wordBitsSpec)

/-- 'turnspitlaw01.WordReads', WHERE WHAT IT READS IS OF BULK AT MOST 1048576: true; the input reads as it did. -/
def wordReadsUptoRow : OpenClaim := { program := "ytkmfbafgbaapiaa", sum := "514ece3f2d5ac4d6b4909c1c9fbbf85a322f9558b5374468cb84c5fa4de3a331", func := "turnspit/turnspitlaw01.WordReads", spec := "wordReads", plainKeys := false, apart := false, narrowed := true }
def WordReadsUptoSaid : Prop := wordReadsUptoRow.holds Try.pinned (OpenSpec.upto wordReadsSpec)

/-- 'turnspitlaw01.WordWrites', WHERE WHAT IT READS IS OF BULK AT MOST 1048576: true; the input reads as it did. -/
def wordWritesUptoRow : OpenClaim := { program := "ytkmfbafgbaapiaa", sum := "514ece3f2d5ac4d6b4909c1c9fbbf85a322f9558b5374468cb84c5fa4de3a331", func := "turnspit/turnspitlaw01.WordWrites", spec := "wordWrites", plainKeys := false, apart := false, narrowed := true }
def WordWritesUptoSaid : Prop := wordWritesUptoRow.holds Try.pinned (OpenSpec.upto wordWritesSpec)

/-- 'turnspitlaw01.WordAll', WHERE WHAT IT READS IS OF BULK AT MOST 1048576: true; the input reads as it did. -/
def wordAllUptoRow : OpenClaim := { program := "ytkmfbafgbaapiaa", sum := "514ece3f2d5ac4d6b4909c1c9fbbf85a322f9558b5374468cb84c5fa4de3a331", func := "turnspit/turnspitlaw01.WordAll", spec := "wordAll", plainKeys := false, apart := false, narrowed := true }
def WordAllUptoSaid : Prop := wordAllUptoRow.holds Try.pinned (OpenSpec.upto wordAllSpec)

/-- 'turnspitlaw03.CellAdds', WHERE WHAT IT READS IS OF BULK AT MOST 1048576: true; the input reads as it did. -/
def cellAddsUptoRow : OpenClaim := { program := "ytkmfbafgbaapiaa", sum := "514ece3f2d5ac4d6b4909c1c9fbbf85a322f9558b5374468cb84c5fa4de3a331", func := "turnspit/turnspitlaw03.CellAdds", spec := "cellAdds", unfollowed := true, recurses := true, plainKeys := false, apart := false, narrowed := true }
def CellAddsUptoSaid : Prop := cellAddsUptoRow.holds Try.pinned (OpenSpec.upto cellAddsSpec)

/-- 'turnspitlaw32.FairWindows', WHERE WHAT IT READS IS OF BULK AT MOST 1048576: true; the input reads as it did. -/
def fairWindowsUptoRow : OpenClaim := { program := "ytkmfbafgbaapiaa", sum := "514ece3f2d5ac4d6b4909c1c9fbbf85a322f9558b5374468cb84c5fa4de3a331", func := "turnspit/turnspitlaw32.FairWindows", spec := "fairWindows", plainKeys := false, apart := false, narrowed := true }
def FairWindowsUptoSaid : Prop := fairWindowsUptoRow.holds Try.pinned (OpenSpec.upto fairWindowsSpec)

/-- 'turnspitlaw32.FairRounds', WHERE WHAT IT READS IS OF BULK AT MOST 1048576: true; the input reads as it did. -/
def fairRoundsUptoRow : OpenClaim := { program := "ytkmfbafgbaapiaa", sum := "514ece3f2d5ac4d6b4909c1c9fbbf85a322f9558b5374468cb84c5fa4de3a331", func := "turnspit/turnspitlaw32.FairRounds", spec := "fairRounds", plainKeys := false, apart := false, narrowed := true }
def FairRoundsUptoSaid : Prop := fairRoundsUptoRow.holds Try.pinned (OpenSpec.upto fairRoundsSpec)

/-- 'turnspitlaw35.CensusCounts', WHERE WHAT IT READS IS OF BULK AT MOST 1048576: true; the input reads as it did. -/
def censusCountsUptoRow : OpenClaim := { program := "ytkmfbafgbaapiaa", sum := "514ece3f2d5ac4d6b4909c1c9fbbf85a322f9558b5374468cb84c5fa4de3a331", func := "turnspit/turnspitlaw35.CensusCounts", spec := "censusCounts", plainKeys := false, apart := false, narrowed := true }
def CensusCountsUptoSaid : Prop := censusCountsUptoRow.holds Try.pinned (OpenSpec.upto censusCountsSpec)

/-- 'turnspitlaw32.FairBound', WHERE WHAT IT READS IS OF BULK AT MOST 1048576: true; the input reads as it did. -/
def fairBoundUptoRow : OpenClaim := { program := "ytkmfbafgbaapiaa", sum := "514ece3f2d5ac4d6b4909c1c9fbbf85a322f9558b5374468cb84c5fa4de3a331", func := "turnspit/turnspitlaw32.FairBound", spec := "fairBound", plainKeys := false, apart := false, narrowed := true }
def FairBoundUptoSaid : Prop := fairBoundUptoRow.holds Try.pinned (OpenSpec.upto fairBoundSpec)

/-- 'turnspitlaw03.CellSwaps', WHERE WHAT IT READS IS OF BULK AT MOST 1048576: true; the input reads as it did. -/
def cellSwapsUptoRow : OpenClaim := { program := "ytkmfbafgbaapiaa", sum := "514ece3f2d5ac4d6b4909c1c9fbbf85a322f9558b5374468cb84c5fa4de3a331", func := "turnspit/turnspitlaw03.CellSwaps", spec := "cellSwaps", unfollowed := true, recurses := true, plainKeys := false, apart := false, narrowed := true }
def CellSwapsUptoSaid : Prop := cellSwapsUptoRow.holds Try.pinned (OpenSpec.upto cellSwapsSpec)

/-- 'turnspitlaw06.CodeInstr', WHERE WHAT IT READS IS OF BULK AT MOST 1048576: true; the input reads as it did. -/
def codeInstrUptoRow : OpenClaim := { program := "ytkmfbafgbaapiaa", sum := "514ece3f2d5ac4d6b4909c1c9fbbf85a322f9558b5374468cb84c5fa4de3a331", func := "turnspit/turnspitlaw06.CodeInstr", spec := "codeInstr", unfollowed := true, recurses := true, plainKeys := false, apart := false, narrowed := true }
def CodeInstrUptoSaid : Prop := codeInstrUptoRow.holds Try.pinned (OpenSpec.upto codeInstrSpec)

/-- 'turnspitlaw06.CodeMost', WHERE WHAT IT READS IS OF BULK AT MOST 1048576: true; the input reads as it did. -/
def codeMostUptoRow : OpenClaim := { program := "ytkmfbafgbaapiaa", sum := "514ece3f2d5ac4d6b4909c1c9fbbf85a322f9558b5374468cb84c5fa4de3a331", func := "turnspit/turnspitlaw06.CodeMost", spec := "codeMost", unfollowed := true, recurses := true, plainKeys := false, apart := false, narrowed := true }
def CodeMostUptoSaid : Prop := codeMostUptoRow.holds Try.pinned (OpenSpec.upto codeMostSpec)

end Rows
end Go.Proofs.Ytkmfbafgbaapiaa
