/- Programs (package code): what Len, Long and At answer. Condition: the programs are there. -/
import Derived.Test.YtogpjimmcckkcaaDoorMz4
namespace Go.Proofs.YtogpjimmcckkcaaDoor.M
open Go.RowKit Go.Proofs.YtogpjimmcckkcaaDoorW.PrintWords Go.Proofs.YtogpjimmcckkcaaDoorW.PrintLast Go.Proofs.YtogpjimmcckkcaaDoorW.PrintMore
set_option linter.unusedVariables false
set_option linter.unusedSimpArgs false

theorem codeRead_calls (A : Option Addr) (cap : Nat) (xs : List Int) (w : World) (hx : Rows encU 1 w A xs) (hcap : xs.length ≤ cap) (hr : ∀ x ∈ xs, 0 ≤ x ∧ x < 18446744073709551616) :
    Calls Tryd.prog 36 #[.slice A xs.length cap] w fun e w' => ∃ b v us, e = .returned (.pointer (some ⟨b, 0, none⟩)) ∧ IsCode w' w.heap.size b v us (progsOf xs) ∧ Bw w w' := by
  refine Read_calls' A cap (min xs.length 4096) xs w hx (by omega) ?_ hcap hr
  split <;> omega

def longOf (pss : List (List (Int × Int))) (p : Int) : Nat := if p < 0 then 0 else (pss.getD p.toNat []).length
def atOf (pss : List (List (Int × Int))) (p i : Int) : Int × Int := if p < 0 then (0, 0) else if i < 0 then (0, 0) else (pss.getD p.toNat []).getD i.toNat (0, 0)
def insV (x : Int × Int) : Value := .agg #[.int .i64 x.1, .int .i64 x.2]
section
variable {w : World} {base b : Nat} {v : Value} {us : List Value} {pss : List (List (Int × Int))}
theorem IsCode.len (h : IsCode w base b v us pss) : pss.length ≤ 9223372036854775807 ∧ ∀ ps ∈ pss, ps.length ≤ 9223372036854775807 := by
  refine ⟨h.nest.1 ▸ own_len h.out, fun ps hp => ?_⟩
  obtain ⟨j, hj, rfl⟩ := List.getElem_of_mem hp
  have hu : j < us.length := by rw [h.nest.1]; exact hj
  exact own_len (h.nest.2 j _ _ (List.getElem?_eq_getElem hu) (List.getElem?_eq_getElem hj))
theorem IsCode.rows (h : IsCode w base b v us pss) : ∃ A c, w.cell? ⟨b, 0, none⟩ = some (.slice A pss.length c) ∧ Rows2 encP 2 w A pss := by
  obtain ⟨A, c, rfl, hr⟩ := Rows2.own (enc := encP) (sz := 2) (tO := 73) (tI := 23) (fun _ => rfl) h.out h.nest h.len.2 h.len.1
  exact ⟨A, c, h.blk.cell 0 _ rfl, hr⟩

theorem Len_nil (w : World) : Calls Tryd.prog 39 #[.pointer none] w fun e w' => e = .returned (.int .i64 0) ∧ Bw w w' := by
  have HB := Aside0.mk (Bw.refl w)
  go_enter Tryd.func39, Tryd.ntmps39
  go_wp2_with fail
  go_ret
  exact ⟨rfl, HB.out⟩
theorem Len_calls (h : IsCode w base b v us pss) : Calls Tryd.prog 39 #[.pointer (some ⟨b, 0, none⟩)] w fun e w' => e = .returned (.int .i64 pss.length) ∧ Bw w w' := by
  have HB := Aside0.mk (Bw.refl w)
  obtain ⟨A, c, hc, hr⟩ := h.rows
  clear hr h
  go_enter Tryd.func39, Tryd.ntmps39
  go_wp2_with fail
  go_ret
  exact ⟨rfl, HB.out⟩
end
end Go.Proofs.YtogpjimmcckkcaaDoor.M
