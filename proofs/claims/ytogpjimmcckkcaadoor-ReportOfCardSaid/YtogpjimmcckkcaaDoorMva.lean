/- Report: what a laid table of strings holds, cell by cell. -/
import Derived.Test.YtogpjimmcckkcaaDoorMv1
import Derived.OpenShut
import Derived.Lib.LaidTab
namespace Go.Proofs.YtogpjimmcckkcaaDoor.M
open Go.RowKit
set_option linter.unusedVariables false
theorem strTab {P : Program} {W : World} {name : String} {ss : List (List UInt8)} {rest : List (String × DataW Unit)} {g : Nat} {t e : TypeId} {n : Nat}
    (hg : P.globalNamed name = some g) (hty : (P.globals[g]?).map (·.type) = some t) (ht : P.underlying t = some (.array n e)) (he : P.underlying e = some .string) (hce : P.cellsOf e = 1)
    (h : laidMet P ((name, .agg (ss.map fun s => .lit (.string s))) :: rest) W) (i : Nat) (s : List UInt8) (hi : ss[i]? = some s) : W.cell? ⟨g, i, none⟩ = some (.string ⟨s.toArray⟩) := by
  obtain ⟨ps, ⟨g', t', cs, fuel, p, q, hg', ht', hvar, hd, _, _⟩, _⟩ := h
  obtain rfl := Option.some.inj (hg.symm.trans hg')
  obtain rfl := Option.some.inj (hty.symm.trans ht')
  obtain ⟨xs, m, _, ex, hlen, hl, hel⟩ := DataW.trod_array ht hd
  have e3 : ss.map (fun s => (DataW.lit (.string s) : DataW Unit)) = xs.map (·.1) := DataW.agg.inj (Prod.mk.inj ex).1
  have hll : ss.length = xs.length := by have := congrArg List.length e3; simpa using this
  have his := (List.getElem?_eq_some_iff.1 hi).1
  have k := hel i (by omega)
  rw [hce, Nat.mul_one] at k
  obtain ⟨x, hx⟩ : ∃ x, xs[i]? = some x := ⟨_, List.getElem?_eq_getElem (by omega)⟩
  rw [hx] at k
  obtain ⟨b, hb, hx1, _⟩ := DataW.trod_string he k
  have e4 : some (DataW.lit (.string s) : DataW Unit) = some x.1 := by
    have := congrArg (fun l => l[i]?) e3
    simpa [List.getElem?_map, hi, hx] using this
  have e5 : b.data.toList = s := by
    have h5 := Option.some.inj e4
    rw [hx1] at h5
    injection h5 with h6
    injection h6 with h7
    exact h7.symm
  have hv := World.var?_cell hg hvar i
  rw [hv]
  have hci : cs[i]? = some (.string b) := by
    have h8 := congrArg (fun l => l[0]?) hb
    simpa [List.getElem?_take, List.getElem?_drop] using h8
  rw [hci, ← e5]
end Go.Proofs.YtogpjimmcckkcaaDoor.M
