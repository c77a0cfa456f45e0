/-
  No cell of these rows narrows 'for every input' (looked for: loops, veiled, ifaces, maps, wideKeys, modest, calm, conditions, laid).
  DERIVED. THE GIVEN ROWS OF THIS SEAT. 12 by the template 'for every input the law returns true; each argument reads behind the call as it read before'; 0 by the template 'total and deterministic' (their statements: YtclippikdfcgkaaTotals.lean).
  GIVEN WITH THE SEED: the statements are not yours to turn. If you find one false, say at which input.
  Laid BY PROGRAM, IN A SANDBOX (cutbox-rows.mjs): the forced cells as the released guide's own fill.sh prints them over the translation 4614a099dd67852c… (all of the seat's roots in one cut). By AI agents, Wed Nov 11 2026. No macro, syntax, notation, axiom, sorry.
-/
import Derived.Test.YtclippikdfcgkaaChecked
import GoSem.Claim
import GoSem.ClaimJoined
import GoSem.ClaimMapViews
import Derived.JoinedTies
import Derived.KernelRfl
namespace Go.Proofs.Ytclippikdfcgkaa
/- THE CELL 'sum', in the pinned program and in every row, IS THE sha256 OF THE DUMP (.gsa) THAT YtclippikdfcgkaaProg.lean LOADS. Nothing in Lean hashes anything: it is a label: what it is worth is what the hold of that sum in a sandbox is worth. -/
noncomputable def Try.pinned : Pinned := { name := "ytclippikdfcgkaa", sum := "4614a099dd67852cc234e13d9a1d54553f35b42968f275bbfc18995044504e80", checked := Try.checked }
namespace Rows
def none {H : Type} : Left H := { results := [], args := [] }

/-- 'turnspitlaw35.CensusAdds': WHATEVER THE INPUT: true; the input reads as it did. -/
def censusAddsSpec : ChangeSpec := { name := "censusAdds", fn := fun _ => fun
  | [d1, d2, d3] => { results := [.lit (.bool true)], args := [d1, d2, d3] }
  | _ => none }
def censusAddsRow : OpenClaim := { program := "ytclippikdfcgkaa", sum := "4614a099dd67852cc234e13d9a1d54553f35b42968f275bbfc18995044504e80", func := "turnspit/turnspitlaw35.CensusAdds", spec := "censusAdds", apart := false }
def CensusAddsSaid : Prop := censusAddsRow.holds Try.pinned (OpenSpec.ofChange censusAddsSpec)

/-- ITS FALSE NEIGHBOUR: 'it returns false'. Refute it at one input. -/
def censusAddsWrong : ChangeSpec := { name := "censusAdds", fn := fun _ => fun
  | [d1, d2, d3] => { results := [.lit (.bool false)], args := [d1, d2, d3] }
  | _ => none }
def CensusAddsWrongFalsely : Prop := censusAddsRow.holds Try.pinned (OpenSpec.ofChange censusAddsWrong)

/-- 'turnspitlaw06.CodeReads': WHATEVER THE INPUT: true; the input reads as it did. -/
def codeReadsSpec : ChangeSpec := { name := "codeReads", fn := fun _ => fun
  | [d1, d2] => { results := [.lit (.bool true)], args := [d1, d2] }
  | _ => none }
def codeReadsRow : OpenClaim := { program := "ytclippikdfcgkaa", sum := "4614a099dd67852cc234e13d9a1d54553f35b42968f275bbfc18995044504e80", func := "turnspit/turnspitlaw06.CodeReads", spec := "codeReads", unfollowed := true, recurses := true, apart := false }
def CodeReadsSaid : Prop := codeReadsRow.holds Try.pinned (OpenSpec.ofChange codeReadsSpec)

/-- ITS FALSE NEIGHBOUR: 'it returns false'. Refute it at one input. -/
def codeReadsWrong : ChangeSpec := { name := "codeReads", fn := fun _ => fun
  | [d1, d2] => { results := [.lit (.bool false)], args := [d1, d2] }
  | _ => none }
def CodeReadsWrongFalsely : Prop := codeReadsRow.holds Try.pinned (OpenSpec.ofChange codeReadsWrong)

/-- 'turnspitlaw06.CodeWord': WHATEVER THE INPUT: true; the input reads as it did. -/
def codeWordSpec : ChangeSpec := { name := "codeWord", fn := fun _ => fun
  | [d1, d2] => { results := [.lit (.bool true)], args := [d1, d2] }
  | _ => none }
def codeWordRow : OpenClaim := { program := "ytclippikdfcgkaa", sum := "4614a099dd67852cc234e13d9a1d54553f35b42968f275bbfc18995044504e80", func := "turnspit/turnspitlaw06.CodeWord", spec := "codeWord", unfollowed := true, recurses := true, apart := false }
def CodeWordSaid : Prop := codeWordRow.holds Try.pinned (OpenSpec.ofChange codeWordSpec)

/-- ITS FALSE NEIGHBOUR: 'it returns false'. Refute it at one input. -/
def codeWordWrong : ChangeSpec := { name := "codeWord", fn := fun _ => fun
  | [d1, d2] => { results := [.lit (.bool false)], args := [d1, d2] }
  | _ => none }
def CodeWordWrongFalsely : Prop := codeWordRow.holds Try.pinned (OpenSpec.ofChange codeWordWrong)

/-- 'turnspitlaw03.CellDoes': WHATEVER THE INPUT: true; the input reads as it did. -/
def cellDoesSpec : ChangeSpec := { name := "cellDoes", fn := fun _ => fun
  | [d1, d2] => { results := [.lit (.bool true)], args := [d1, d2] }
  | _ => none }
def cellDoesRow : OpenClaim := { program := "ytclippikdfcgkaa", sum := "4614a099dd67852cc234e13d9a1d54553f35b42968f275bbfc18995044504e80", func := "turnspit/turnspitlaw03.CellDoes", spec := "cellDoes", unfollowed := true, recurses := true, apart := false }
def CellDoesSaid : Prop := cellDoesRow.holds Try.pinned (OpenSpec.ofChange cellDoesSpec)

/-- ITS FALSE NEIGHBOUR: 'it returns false'. Refute it at one input. -/
def cellDoesWrong : ChangeSpec := { name := "cellDoes", fn := fun _ => fun
  | [d1, d2] => { results := [.lit (.bool false)], args := [d1, d2] }
  | _ => none }
def CellDoesWrongFalsely : Prop := cellDoesRow.holds Try.pinned (OpenSpec.ofChange cellDoesWrong)

/-- 'turnspitlaw03.CellMakes': WHATEVER THE INPUT: true; the input reads as it did. -/
def cellMakesSpec : ChangeSpec := { name := "cellMakes", fn := fun _ => fun
  | [d1, d2, d3] => { results := [.lit (.bool true)], args := [d1, d2, d3] }
  | _ => none }
def cellMakesRow : OpenClaim := { program := "ytclippikdfcgkaa", sum := "4614a099dd67852cc234e13d9a1d54553f35b42968f275bbfc18995044504e80", func := "turnspit/turnspitlaw03.CellMakes", spec := "cellMakes", unfollowed := true, recurses := true, apart := false }
def CellMakesSaid : Prop := cellMakesRow.holds Try.pinned (OpenSpec.ofChange cellMakesSpec)

/-- ITS FALSE NEIGHBOUR: 'it returns false'. Refute it at one input. -/
def cellMakesWrong : ChangeSpec := { name := "cellMakes", fn := fun _ => fun
  | [d1, d2, d3] => { results := [.lit (.bool false)], args := [d1, d2, d3] }
  | _ => none }
def CellMakesWrongFalsely : Prop := cellMakesRow.holds Try.pinned (OpenSpec.ofChange cellMakesWrong)

/-- 'turnspitlaw10.GoroWhole': WHATEVER THE INPUT: true; the input reads as it did. -/
def goroWholeSpec : ChangeSpec := { name := "goroWhole", fn := fun _ => fun
  | [d1, d2, d3] => { results := [.lit (.bool true)], args := [d1, d2, d3] }
  | _ => none }
def goroWholeRow : OpenClaim := { program := "ytclippikdfcgkaa", sum := "4614a099dd67852cc234e13d9a1d54553f35b42968f275bbfc18995044504e80", func := "turnspit/turnspitlaw10.GoroWhole", spec := "goroWhole", unfollowed := true, recurses := true, apart := false }
def GoroWholeSaid : Prop := goroWholeRow.holds Try.pinned (OpenSpec.ofChange goroWholeSpec)

/-- ITS FALSE NEIGHBOUR: 'it returns false'. Refute it at one input. -/
def goroWholeWrong : ChangeSpec := { name := "goroWhole", fn := fun _ => fun
  | [d1, d2, d3] => { results := [.lit (.bool false)], args := [d1, d2, d3] }
  | _ => none }
def GoroWholeWrongFalsely : Prop := goroWholeRow.holds Try.pinned (OpenSpec.ofChange goroWholeWrong)

/-- 'turnspitlaw10.GoroMakes': WHATEVER THE INPUT: true; the input reads as it did. -/
def goroMakesSpec : ChangeSpec := { name := "goroMakes", fn := fun _ => fun
  | [d1, d2, d3] => { results := [.lit (.bool true)], args := [d1, d2, d3] }
  | _ => none }
def goroMakesRow : OpenClaim := { program := "ytclippikdfcgkaa", sum := "4614a099dd67852cc234e13d9a1d54553f35b42968f275bbfc18995044504e80", func := "turnspit/turnspitlaw10.GoroMakes", spec := "goroMakes", unfollowed := true, recurses := true, apart := false }
def GoroMakesSaid : Prop := goroMakesRow.holds Try.pinned (OpenSpec.ofChange goroMakesSpec)

/-- ITS FALSE NEIGHBOUR: 'it returns false'. Refute it at one input. -/
def goroMakesWrong : ChangeSpec := { name := "goroMakes", fn := fun _ => fun
  | [d1, d2, d3] => { results := [.lit (.bool false)], args := [d1, d2, d3] }
  | _ => none }
def GoroMakesWrongFalsely : Prop := goroMakesRow.holds Try.pinned (OpenSpec.ofChange goroMakesWrong)

/-- 'turnspitlaw36.AgendaOrder': WHATEVER THE INPUT: true; the input reads as it did. -/
def agendaOrderSpec : ChangeSpec := { name := "agendaOrder", fn := fun _ => fun
  | [d] => { results := [.lit (.bool true)], args := [d] }
  | _ => none }
def agendaOrderRow : OpenClaim := { program := "ytclippikdfcgkaa", sum := "4614a099dd67852cc234e13d9a1d54553f35b42968f275bbfc18995044504e80", func := "turnspit/turnspitlaw36.AgendaOrder", spec := "agendaOrder", unfollowed := true, recurses := true, apart := false }
def AgendaOrderSaid : Prop := agendaOrderRow.holds Try.pinned (OpenSpec.ofChange agendaOrderSpec)

/-- ITS FALSE NEIGHBOUR: 'it returns false'. Refute it at one input. -/
def agendaOrderWrong : ChangeSpec := { name := "agendaOrder", fn := fun _ => fun
  | [d] => { results := [.lit (.bool false)], args := [d] }
  | _ => none }
def AgendaOrderWrongFalsely : Prop := agendaOrderRow.holds Try.pinned (OpenSpec.ofChange agendaOrderWrong)

/-- 'turnspitlaw07.FlowChains': WHATEVER THE INPUT: true; the input reads as it did. -/
def flowChainsSpec : ChangeSpec := { name := "flowChains", fn := fun _ => fun
  | [d1, d2, d3] => { results := [.lit (.bool true)], args := [d1, d2, d3] }
  | _ => none }
def flowChainsRow : OpenClaim := { program := "ytclippikdfcgkaa", sum := "4614a099dd67852cc234e13d9a1d54553f35b42968f275bbfc18995044504e80", func := "turnspit/turnspitlaw07.FlowChains", spec := "flowChains", unfollowed := true, recurses := true, apart := false }
def FlowChainsSaid : Prop := flowChainsRow.holds Try.pinned (OpenSpec.ofChange flowChainsSpec)

/-- ITS FALSE NEIGHBOUR: 'it returns false'. Refute it at one input. -/
def flowChainsWrong : ChangeSpec := { name := "flowChains", fn := fun _ => fun
  | [d1, d2, d3] => { results := [.lit (.bool false)], args := [d1, d2, d3] }
  | _ => none }
def FlowChainsWrongFalsely : Prop := flowChainsRow.holds Try.pinned (OpenSpec.ofChange flowChainsWrong)

/-- 'turnspitlaw07.FlowNone': WHATEVER THE INPUT: true; the input reads as it did. -/
def flowNoneSpec : ChangeSpec := { name := "flowNone", fn := fun _ => fun
  | [d] => { results := [.lit (.bool true)], args := [d] }
  | _ => none }
def flowNoneRow : OpenClaim := { program := "ytclippikdfcgkaa", sum := "4614a099dd67852cc234e13d9a1d54553f35b42968f275bbfc18995044504e80", func := "turnspit/turnspitlaw07.FlowNone", spec := "flowNone", unfollowed := true, recurses := true, apart := false }
def FlowNoneSaid : Prop := flowNoneRow.holds Try.pinned (OpenSpec.ofChange flowNoneSpec)

/-- ITS FALSE NEIGHBOUR: 'it returns false'. Refute it at one input. -/
def flowNoneWrong : ChangeSpec := { name := "flowNone", fn := fun _ => fun
  | [d] => { results := [.lit (.bool false)], args := [d] }
  | _ => none }
def FlowNoneWrongFalsely : Prop := flowNoneRow.holds Try.pinned (OpenSpec.ofChange flowNoneWrong)

/-- 'turnspitlaw07.FlowParts': WHATEVER THE INPUT: true; the input reads as it did. -/
def flowPartsSpec : ChangeSpec := { name := "flowParts", fn := fun _ => fun
  | [d1, d2] => { results := [.lit (.bool true)], args := [d1, d2] }
  | _ => none }
def flowPartsRow : OpenClaim := { program := "ytclippikdfcgkaa", sum := "4614a099dd67852cc234e13d9a1d54553f35b42968f275bbfc18995044504e80", func := "turnspit/turnspitlaw07.FlowParts", spec := "flowParts", unfollowed := true, recurses := true, apart := false }
def FlowPartsSaid : Prop := flowPartsRow.holds Try.pinned (OpenSpec.ofChange flowPartsSpec)

/-- ITS FALSE NEIGHBOUR: 'it returns false'. Refute it at one input. -/
def flowPartsWrong : ChangeSpec := { name := "flowParts", fn := fun _ => fun
  | [d1, d2] => { results := [.lit (.bool false)], args := [d1, d2] }
  | _ => none }
def FlowPartsWrongFalsely : Prop := flowPartsRow.holds Try.pinned (OpenSpec.ofChange flowPartsWrong)

/-- 'turnspitlaw29.ModelNone': WHATEVER THE INPUT: true; the input reads as it did. -/
def modelNoneSpec : ChangeSpec := { name := "modelNone", fn := fun _ => fun
  | [d1, d2] => { results := [.lit (.bool true)], args := [d1, d2] }
  | _ => none }
def modelNoneRow : OpenClaim := { program := "ytclippikdfcgkaa", sum := "4614a099dd67852cc234e13d9a1d54553f35b42968f275bbfc18995044504e80", func := "turnspit/turnspitlaw29.ModelNone", spec := "modelNone", unfollowed := true, recurses := true, apart := false }
def ModelNoneSaid : Prop := modelNoneRow.holds Try.pinned (OpenSpec.ofChange modelNoneSpec)

/-- ITS FALSE NEIGHBOUR: 'it returns false'. Refute it at one input. -/
def modelNoneWrong : ChangeSpec := { name := "modelNone", fn := fun _ => fun
  | [d1, d2] => { results := [.lit (.bool false)], args := [d1, d2] }
  | _ => none }
def ModelNoneWrongFalsely : Prop := modelNoneRow.holds Try.pinned (OpenSpec.ofChange modelNoneWrong)

/- THE SECOND FORM. 'bulk': how many values and letters a reading holds, each counted each time it is reached (what is shared counts as often as it is met; a slice's spare places count too). A statement '..UptoSaid' is the law's where the arguments, and the package variables that the reading takes, are together of bulk at most 1048576: NARROWER than '..Said'. Prove '..Said' where nothing that the law and all that it calls make is longer than what came in: it says more and counts as full. Else prove '..UptoSaid'. A law counts once. -/
mutual
def uptoBulk {H : Type} : DataW H → Nat
  | .lit (.string bytes) => bytes.length + 1
  | .lit _ => 1
  | .nil => 1
  | .ptr d => uptoBulk d + 1
  | .slice elems spare => uptoBulkAll elems + uptoBulkAll spare + 1
  | .agg parts => uptoBulkAll parts + 1
  | .iface _ d => uptoBulk d + 1
  | .map entries => uptoBulkEntries entries + 1
  | .held _ => 1
def uptoBulkAll {H : Type} : List (DataW H) → Nat
  | [] => 0
  | d :: r => uptoBulk d + uptoBulkAll r
def uptoBulkEntries {H : Type} : List (Lit × DataW H) → Nat
  | [] => 0
  | x :: r => uptoBulkEntry x + uptoBulkEntries r
def uptoBulkEntry {H : Type} : Lit × DataW H → Nat
  | (.string bytes, d) => bytes.length + uptoBulk d + 1
  | (_, d) => uptoBulk d + 1
 end
def uptoSmall : (H : Type) → List (DataW H) → Bool := fun _ ds => decide (uptoBulkAll ds ≤ 1048576)
def OpenSpec.upto (s : _root_.Go.ChangeSpec) : _root_.Go.OpenSpec := { _root_.Go.OpenSpec.ofChange s with cond := some uptoSmall }

/-- 'turnspitlaw35.CensusAdds', WHERE WHAT IT READS IS OF BULK AT MOST 1048576: true; the input reads as it did. -/
def censusAddsUptoRow : OpenClaim := { program := "ytclippikdfcgkaa", sum := "4614a099dd67852cc234e13d9a1d54553f35b42968f275bbfc18995044504e80", func := "turnspit/turnspitlaw35.CensusAdds", spec := "censusAdds", apart := false, narrowed := true }
def CensusAddsUptoSaid : Prop := censusAddsUptoRow.holds Try.pinned (OpenSpec.upto censusAddsSpec)

/-- 'turnspitlaw06.CodeReads', WHERE WHAT IT READS IS OF BULK AT MOST 1048576: true; the input reads as it did. -/
def codeReadsUptoRow : OpenClaim := { program := "ytclippikdfcgkaa", sum := "4614a099dd67852cc234e13d9a1d54553f35b42968f275bbfc18995044504e80", func := "turnspit/turnspitlaw06.CodeReads", spec := "codeReads", unfollowed := true, recurses := true, apart := false, narrowed := true }
def CodeReadsUptoSaid : Prop := codeReadsUptoRow.holds Try.pinned (OpenSpec.upto codeReadsSpec)

/-- 'turnspitlaw06.CodeWord', WHERE WHAT IT READS IS OF BULK AT MOST 1048576: true; the input reads as it did. -/
def codeWordUptoRow : OpenClaim := { program := "ytclippikdfcgkaa", sum := "4614a099dd67852cc234e13d9a1d54553f35b42968f275bbfc18995044504e80", func := "turnspit/turnspitlaw06.CodeWord", spec := "codeWord", unfollowed := true, recurses := true, apart := false, narrowed := true }
def CodeWordUptoSaid : Prop := codeWordUptoRow.holds Try.pinned (OpenSpec.upto codeWordSpec)

/-- 'turnspitlaw03.CellDoes', WHERE WHAT IT READS IS OF BULK AT MOST 1048576: true; the input reads as it did. -/
def cellDoesUptoRow : OpenClaim := { program := "ytclippikdfcgkaa", sum := "4614a099dd67852cc234e13d9a1d54553f35b42968f275bbfc18995044504e80", func := "turnspit/turnspitlaw03.CellDoes", spec := "cellDoes", unfollowed := true, recurses := true, apart := false, narrowed := true }
def CellDoesUptoSaid : Prop := cellDoesUptoRow.holds Try.pinned (OpenSpec.upto cellDoesSpec)

/-- 'turnspitlaw03.CellMakes', WHERE WHAT IT READS IS OF BULK AT MOST 1048576: true; the input reads as it did. -/
def cellMakesUptoRow : OpenClaim := { program := "ytclippikdfcgkaa", sum := "4614a099dd67852cc234e13d9a1d54553f35b42968f275bbfc18995044504e80", func := "turnspit/turnspitlaw03.CellMakes", spec := "cellMakes", unfollowed := true, recurses := true, apart := false, narrowed := true }
def CellMakesUptoSaid : Prop := cellMakesUptoRow.holds Try.pinned (OpenSpec.upto cellMakesSpec)

/-- 'turnspitlaw10.GoroWhole', WHERE WHAT IT READS IS OF BULK AT MOST 1048576: true; the input reads as it did. -/
def goroWholeUptoRow : OpenClaim := { program := "ytclippikdfcgkaa", sum := "4614a099dd67852cc234e13d9a1d54553f35b42968f275bbfc18995044504e80", func := "turnspit/turnspitlaw10.GoroWhole", spec := "goroWhole", unfollowed := true, recurses := true, apart := false, narrowed := true }
def GoroWholeUptoSaid : Prop := goroWholeUptoRow.holds Try.pinned (OpenSpec.upto goroWholeSpec)

/-- 'turnspitlaw10.GoroMakes', WHERE WHAT IT READS IS OF BULK AT MOST 1048576: true; the input reads as it did. -/
def goroMakesUptoRow : OpenClaim := { program := "ytclippikdfcgkaa", sum := "4614a099dd67852cc234e13d9a1d54553f35b42968f275bbfc18995044504e80", func := "turnspit/turnspitlaw10.GoroMakes", spec := "goroMakes", unfollowed := true, recurses := true, apart := false, narrowed := true }
def GoroMakesUptoSaid : Prop := goroMakesUptoRow.holds Try.pinned (OpenSpec.upto goroMakesSpec)

/-- 'turnspitlaw36.AgendaOrder', WHERE WHAT IT READS IS OF BULK AT MOST 1048576: true; the input reads as it did. -/
def agendaOrderUptoRow : OpenClaim := { program := "ytclippikdfcgkaa", sum := "4614a099dd67852cc234e13d9a1d54553f35b42968f275bbfc18995044504e80", func := "turnspit/turnspitlaw36.AgendaOrder", spec := "agendaOrder", unfollowed := true, recurses := true, apart := false, narrowed := true }
def AgendaOrderUptoSaid : Prop := agendaOrderUptoRow.holds Try.pinned (OpenSpec.upto agendaOrderSpec)

/-- 'turnspitlaw07.FlowChains', WHERE WHAT IT READS IS OF BULK AT MOST 1048576: true; the input reads as it did. -/
def flowChainsUptoRow : OpenClaim := { program := "ytclippikdfcgkaa", sum := "4614a099dd67852cc234e13d9a1d54553f35b42968f275bbfc18995044504e80", func := "turnspit/turnspitlaw07.FlowChains", spec := "flowChains", unfollowed := true, recurses := true, apart := false, narrowed := true }
def FlowChainsUptoSaid : Prop := flowChainsUptoRow.holds Try.pinned (OpenSpec.upto flowChainsSpec)

/-- 'turnspitlaw07.FlowNone', WHERE WHAT IT READS IS OF BULK AT MOST 1048576: true; the input reads as it did. -/
def flowNoneUptoRow : OpenClaim := { program := "ytclippikdfcgkaa", sum := "4614a099dd67852cc234e13d9a1d54553f35b42968f275bbfc18995044504e80", func := "turnspit/turnspitlaw07.FlowNone", spec := "flowNone", unfollowed := true, recurses := true, apart := false, narrowed := true }
def FlowNoneUptoSaid : Prop := flowNoneUptoRow.holds Try.pinned (OpenSpec.upto flowNoneSpec)

/-- 'turnspitlaw07.FlowParts', WHERE WHAT IT READS IS OF BULK AT MOST 1048576: true; the input reads as it did. -/
def flowPartsUptoRow : OpenClaim := { program := "ytclippikdfcgkaa", sum := "4614a099dd67852cc234e13d9a1d54553f35b42968f275bbfc18995044504e80", func := "turnspit/turnspitlaw07.FlowParts", spec := "flowParts", unfollowed := true, recurses := true, apart := false, narrowed := true }
def FlowPartsUptoSaid : Prop := flowPartsUptoRow.holds Try.pinned (OpenSpec.upto flowPartsSpec)

/-- 'turnspitlaw29.ModelNone', WHERE WHAT IT READS IS OF BULK AT MOST 1048576: true; the input reads as it did. -/
def modelNoneUptoRow : OpenClaim := { program := "ytclippikdfcgkaa", sum := "4614a099dd67852cc234e13d9a1d54553f35b42968f275bbfc18995044504e80", func := "turnspit/turnspitlaw29.ModelNone", spec := "modelNone", unfollowed := true, recurses := true, apart := false, narrowed := true }
def ModelNoneUptoSaid : Prop := modelNoneUptoRow.holds Try.pinned (OpenSpec.upto modelNoneSpec)

end Rows
end Go.Proofs.Ytclippikdfcgkaa
