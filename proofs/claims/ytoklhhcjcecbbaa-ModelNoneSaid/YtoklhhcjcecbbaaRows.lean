/-
  No cell of these rows narrows 'for every input' (looked for: loops, veiled, ifaces, maps, wideKeys, modest, calm, conditions, laid).
  DERIVED. THE GIVEN ROWS OF THIS SEAT. 5 by the template 'for every input the law returns true; each argument reads behind the call as it read before'; 0 by the template 'total and deterministic' (their statements: YtoklhhcjcecbbaaTotals.lean).
  GIVEN WITH THE SEED: the statements are not yours to turn. If you find one false, say at which input.
  Laid BY PROGRAM, IN A SANDBOX (cutbox-rows.mjs): the forced cells as the released guide's own fill.sh prints them over the translation 355ad61e0265a7eb… (all of the seat's roots in one cut). By AI agents, Wed Nov 11 2026. No macro, syntax, notation, axiom, sorry.
-/
import Derived.Test.YtoklhhcjcecbbaaChecked
import GoSem.Claim
import GoSem.ClaimJoined
import GoSem.ClaimMapViews
import Derived.JoinedTies
import Derived.KernelRfl
namespace Go.Proofs.Ytoklhhcjcecbbaa
/- THE CELL 'sum', in the pinned program and in every row, IS THE sha256 OF THE DUMP (.gsa) THAT YtoklhhcjcecbbaaProg.lean LOADS. Nothing in Lean hashes anything: it is a label: what it is worth is what the hold of that sum in a sandbox is worth. -/
noncomputable def Try.pinned : Pinned := { name := "ytoklhhcjcecbbaa", sum := "355ad61e0265a7eb7f6c48f6ac1c78d9fa9c2ffe2c0b63df1210dd7589102754", checked := Try.checked }
namespace Rows
def none {H : Type} : Left H := { results := [], args := [] }

/-- 'turnspitlaw36.AgendaOrder': WHATEVER THE INPUT: true; the input reads as it did. -/
def agendaOrderSpec : ChangeSpec := { name := "agendaOrder", fn := fun _ => fun
  | [d] => { results := [.lit (.bool true)], args := [d] }
  | _ => none }
def agendaOrderRow : OpenClaim := { program := "ytoklhhcjcecbbaa", sum := "355ad61e0265a7eb7f6c48f6ac1c78d9fa9c2ffe2c0b63df1210dd7589102754", func := "turnspit/turnspitlaw36.AgendaOrder", spec := "agendaOrder", unfollowed := true, recurses := true, apart := false }
def AgendaOrderSaid : Prop := agendaOrderRow.holds Try.pinned (OpenSpec.ofChange agendaOrderSpec)

/-- ITS FALSE NEIGHBOUR: 'it returns false'. Refute it at one input. -/
def agendaOrderWrong : ChangeSpec := { name := "agendaOrder", fn := fun _ => fun
  | [d] => { results := [.lit (.bool false)], args := [d] }
  | _ => none }
def AgendaOrderWrongFalsely : Prop := agendaOrderRow.holds Try.pinned (OpenSpec.ofChange agendaOrderWrong)

/-- 'turnspitlaw36.AgendaDoes': WHATEVER THE INPUT: true; the input reads as it did. -/
def agendaDoesSpec : ChangeSpec := { name := "agendaDoes", fn := fun _ => fun
  | [d] => { results := [.lit (.bool true)], args := [d] }
  | _ => none }
def agendaDoesRow : OpenClaim := { program := "ytoklhhcjcecbbaa", sum := "355ad61e0265a7eb7f6c48f6ac1c78d9fa9c2ffe2c0b63df1210dd7589102754", func := "turnspit/turnspitlaw36.AgendaDoes", spec := "agendaDoes", unfollowed := true, recurses := true, apart := false }
def AgendaDoesSaid : Prop := agendaDoesRow.holds Try.pinned (OpenSpec.ofChange agendaDoesSpec)

/-- ITS FALSE NEIGHBOUR: 'it returns false'. Refute it at one input. -/
def agendaDoesWrong : ChangeSpec := { name := "agendaDoes", fn := fun _ => fun
  | [d] => { results := [.lit (.bool false)], args := [d] }
  | _ => none }
def AgendaDoesWrongFalsely : Prop := agendaDoesRow.holds Try.pinned (OpenSpec.ofChange agendaDoesWrong)

/-- 'turnspitlaw36.AgendaNone': WHATEVER THE INPUT: true; the input reads as it did. -/
def agendaNoneSpec : ChangeSpec := { name := "agendaNone", fn := fun _ => fun
  | [d] => { results := [.lit (.bool true)], args := [d] }
  | _ => none }
def agendaNoneRow : OpenClaim := { program := "ytoklhhcjcecbbaa", sum := "355ad61e0265a7eb7f6c48f6ac1c78d9fa9c2ffe2c0b63df1210dd7589102754", func := "turnspit/turnspitlaw36.AgendaNone", spec := "agendaNone", unfollowed := true, recurses := true, apart := false }
def AgendaNoneSaid : Prop := agendaNoneRow.holds Try.pinned (OpenSpec.ofChange agendaNoneSpec)

/-- ITS FALSE NEIGHBOUR: 'it returns false'. Refute it at one input. -/
def agendaNoneWrong : ChangeSpec := { name := "agendaNone", fn := fun _ => fun
  | [d] => { results := [.lit (.bool false)], args := [d] }
  | _ => none }
def AgendaNoneWrongFalsely : Prop := agendaNoneRow.holds Try.pinned (OpenSpec.ofChange agendaNoneWrong)

/-- 'turnspitlaw29.ModelNone': WHATEVER THE INPUT: true; the input reads as it did. -/
def modelNoneSpec : ChangeSpec := { name := "modelNone", fn := fun _ => fun
  | [d1, d2] => { results := [.lit (.bool true)], args := [d1, d2] }
  | _ => none }
def modelNoneRow : OpenClaim := { program := "ytoklhhcjcecbbaa", sum := "355ad61e0265a7eb7f6c48f6ac1c78d9fa9c2ffe2c0b63df1210dd7589102754", func := "turnspit/turnspitlaw29.ModelNone", spec := "modelNone", unfollowed := true, recurses := true, apart := false }
def ModelNoneSaid : Prop := modelNoneRow.holds Try.pinned (OpenSpec.ofChange modelNoneSpec)

/-- ITS FALSE NEIGHBOUR: 'it returns false'. Refute it at one input. -/
def modelNoneWrong : ChangeSpec := { name := "modelNone", fn := fun _ => fun
  | [d1, d2] => { results := [.lit (.bool false)], args := [d1, d2] }
  | _ => none }
def ModelNoneWrongFalsely : Prop := modelNoneRow.holds Try.pinned (OpenSpec.ofChange modelNoneWrong)

/-- 'turnspitlaw07.FlowParts': WHATEVER THE INPUT: true; the input reads as it did. -/
def flowPartsSpec : ChangeSpec := { name := "flowParts", fn := fun _ => fun
  | [d1, d2] => { results := [.lit (.bool true)], args := [d1, d2] }
  | _ => none }
def flowPartsRow : OpenClaim := { program := "ytoklhhcjcecbbaa", sum := "355ad61e0265a7eb7f6c48f6ac1c78d9fa9c2ffe2c0b63df1210dd7589102754", func := "turnspit/turnspitlaw07.FlowParts", spec := "flowParts", unfollowed := true, recurses := true, apart := false }
def FlowPartsSaid : Prop := flowPartsRow.holds Try.pinned (OpenSpec.ofChange flowPartsSpec)

/-- ITS FALSE NEIGHBOUR: 'it returns false'. Refute it at one input. -/
def flowPartsWrong : ChangeSpec := { name := "flowParts", fn := fun _ => fun
  | [d1, d2] => { results := [.lit (.bool false)], args := [d1, d2] }
  | _ => none }
def FlowPartsWrongFalsely : Prop := flowPartsRow.holds Try.pinned (OpenSpec.ofChange flowPartsWrong)

/- THE SECOND FORM. 'bulk': how many values and letters a reading holds, each counted each time it is reached (what is shared counts as often as it is met; a slice's spare places count too). A statement '..UptoSaid' is the law's where the arguments, and the package variables that the reading takes, are together of bulk at most 1048576: NARROWER than '..Said'. Prove '..Said' where nothing that the law and all that it calls make is longer than what came in: it says more and counts as full. Else prove '..UptoSaid'. A law counts once. -/
mutual
def uptoBulk {H : Type} : DataW H → Nat
  | .lit (.string bytes) => bytes.length + 1
  | .lit _ => 1
  | .nil => 1
  | .ptr d => uptoBulk d + 1
  | .slice elems spare => uptoBulkAll elems + uptoBulkAll spare + 1
  | .agg parts => uptoBulkAll parts + 1
  | .iface _ d => uptoBulk d + 1
  | .map entries => uptoBulkEntries entries + 1
  | .held _ => 1
def uptoBulkAll {H : Type} : List (DataW H) → Nat
  | [] => 0
  | d :: r => uptoBulk d + uptoBulkAll r
def uptoBulkEntries {H : Type} : List (Lit × DataW H) → Nat
  | [] => 0
  | x :: r => uptoBulkEntry x + uptoBulkEntries r
def uptoBulkEntry {H : Type} : Lit × DataW H → Nat
  | (.string bytes, d) => bytes.length + uptoBulk d + 1
  | (_, d) => uptoBulk d + 1
 end
def uptoSmall : (H : Type) → List (DataW H) → Bool := fun _ ds => decide (uptoBulkAll ds ≤ 1048576)
def OpenSpec.upto (s : _root_.Go.ChangeSpec) : _root_.Go.OpenSpec := { _root_.Go.OpenSpec.ofChange s with cond := some uptoSmall }

/-- 'turnspitlaw36.AgendaOrder', WHERE WHAT IT READS IS OF BULK AT MOST 1048576: true; the input reads as it did. -/
def agendaOrderUptoRow : OpenClaim := { program := "ytoklhhcjcecbbaa", sum := "355ad61e0265a7eb7f6c48f6ac1c78d9fa9c2ffe2c0b63df1210dd7589102754", func := "turnspit/turnspitlaw36.AgendaOrder", spec := "agendaOrder", unfollowed := true, recurses := true, apart := false, narrowed := true }
def AgendaOrderUptoSaid : Prop := agendaOrderUptoRow.holds Try.pinned (OpenSpec.upto agendaOrderSpec)

/-- 'turnspitlaw36.AgendaDoes', WHERE WHAT IT READS IS OF BULK AT MOST 1048576: true; the input reads as it did. -/
def agendaDoesUptoRow : OpenClaim := { program := "ytoklhhcjcecbbaa", sum := "355ad61e0265a7eb7f6c48f6ac1c78d9fa9c2ffe2c0b63df1210dd7589102754", func := "turnspit/turnspitlaw36.AgendaDoes", spec := "agendaDoes", unfollowed := true, recurses := true, apart := false, narrowed := true }
def AgendaDoesUptoSaid : Prop := agendaDoesUptoRow.holds Try.pinned (OpenSpec.upto agendaDoesSpec)

/-- 'turnspitlaw36.AgendaNone', WHERE WHAT IT READS IS OF BULK AT MOST 1048576: true; the input reads as it did. -/
def agendaNoneUptoRow : OpenClaim := { program := "ytoklhhcjcecbbaa", sum := "355ad61e0265a7eb7f6c48f6ac1c78d9fa9c2ffe2c0b63df1210dd7589102754", func := "turnspit/turnspitlaw36.AgendaNone", spec := "agendaNone", unfollowed := true, recurses := true, apart := false, narrowed := true }
def AgendaNoneUptoSaid : Prop := agendaNoneUptoRow.holds Try.pinned (OpenSpec.upto agendaNoneSpec)

/-- 'turnspitlaw29.ModelNone', WHERE WHAT IT READS IS OF BULK AT MOST 1048576: true; the input reads as it did. -/
def modelNoneUptoRow : OpenClaim := { program := "ytoklhhcjcecbbaa", sum := "355ad61e0265a7eb7f6c48f6ac1c78d9fa9c2ffe2c0b63df1210dd7589102754", func := "turnspit/turnspitlaw29.ModelNone", spec := "modelNone", unfollowed := true, recurses := true, apart := false, narrowed := true }
def ModelNoneUptoSaid : Prop := modelNoneUptoRow.holds Try.pinned (OpenSpec.upto modelNoneSpec)

/-- 'turnspitlaw07.FlowParts', WHERE WHAT IT READS IS OF BULK AT MOST 1048576: true; the input reads as it did. -/
def flowPartsUptoRow : OpenClaim := { program := "ytoklhhcjcecbbaa", sum := "355ad61e0265a7eb7f6c48f6ac1c78d9fa9c2ffe2c0b63df1210dd7589102754", func := "turnspit/turnspitlaw07.FlowParts", spec := "flowParts", unfollowed := true, recurses := true, apart := false, narrowed := true }
def FlowPartsUptoSaid : Prop := flowPartsUptoRow.holds Try.pinned (OpenSpec.upto flowPartsSpec)

end Rows
end Go.Proofs.Ytoklhhcjcecbbaa
