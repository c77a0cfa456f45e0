/- Slices of structs that are read, as the walk spells their cells. No condition. -/
import Derived.Test.YtoklhhcjcecbbaaMk
import Derived.Test.YtoklhhcjcecbbaaMr
namespace Go.Proofs.Ytoklhhcjcecbbaa.M
open Go.RowKit Go.Proofs.YtoklhhcjcecbbaaW.PrintWords Go.Proofs.YtoklhhcjcecbbaaW.PrintLast Go.Proofs.YtoklhhcjcecbbaaW.PrintMore
namespace Rows
variable {α : Type} {enc : α → List Value} {sz : Nat} {w w1 : World} {A : Option Addr} {xs : List α}
/-- Element j's cells: the first, and field i behind it. -/
theorem atS (h : Rows enc sz w A xs) (j : Nat) (x : α) (hx : xs[j]? = some x) : ∃ ad, A = some ad ∧ (∀ v, (enc x)[0]? = some v → w.cell? (ad.add (j * sz)) = some v) ∧
    ∀ i v, 0 < i → (enc x)[i]? = some v → w.cell? ⟨(ad.add (j * sz)).block, (ad.add (j * sz)).off + i, none⟩ = some v := by
  obtain ⟨ad, e, hc⟩ := h.at_ j x hx
  exact ⟨ad, e, fun v hv => by simpa using hc 0 v hv, fun i v hi hv => by rw [← add_field ad _ _ hi]; exact hc i v hv⟩
end Rows
/-- A slice that came in, as a list of its elements' cells; as a list of what they say. -/
theorem rd_cells {ks : List FK} {w : World} {a : Option Addr} {len cap : Nat} (h : RdRow ks w a len cap) : ∃ css : List (List Value), css.length = len ∧ (∀ cs ∈ css, Fits ks cs) ∧ Rows (fun cs => cs) ks.length w a css := by
  rcases h with ⟨rfl, rfl, rfl⟩ | ⟨x, rfl, hl, hm, hc⟩
  · exact ⟨[], rfl, by simp, Rows.nil⟩
  · obtain ⟨f, hf⟩ := Go.Deep.choose_lt hc
    refine ⟨(List.range len).map f, by simp, ?_, ?_, fun _ => ⟨x, rfl, fun j cs hj i v hv => ?_⟩⟩
    · intro cs hcs
      obtain ⟨i, hi, rfl⟩ := List.mem_map.1 hcs
      exact (hf i (List.mem_range.1 hi)).1
    · simp [maxLen] at hm ⊢
      omega
    · have hjl : j < len := by have := (List.getElem?_eq_some_iff.1 hj).1; simpa using this
      have : cs = f j := by simp [hjl] at hj; exact hj.symm
      subst this
      exact (hf j hjl).2 i v hv
theorem Rows.map {α : Type} {enc : α → List Value} {dec : List Value → α} {sz : Nat} {w : World} {a : Option Addr} {css : List (List Value)} (h : Rows (fun cs => cs) sz w a css) (hd : ∀ cs ∈ css, enc (dec cs) = cs) : Rows enc sz w a (css.map dec) :=
  ⟨by simpa using h.1, fun hn => by
    obtain ⟨ad, e, hc⟩ := h.2 (by rintro rfl; exact hn rfl)
    refine ⟨ad, e, fun j x hx i v hv => ?_⟩
    rw [List.getElem?_map] at hx
    obtain ⟨cs, hcs, rfl⟩ := Option.map_eq_some_iff.1 hx
    rw [hd cs (List.mem_of_getElem? hcs)] at hv
    exact hc j cs hcs i v hv⟩
def geti (cs : List Value) (i : Nat) : Int := match cs[i]? with | some (.int _ n) => n | _ => 0
theorem rd_ints {k : IntKind} {w : World} {a : Option Addr} {len cap : Nat} (h : RdRow [.int k] w a len cap) :
    ∃ xs : List Int, xs.length = len ∧ Rows (fun x => [Value.int k x]) 1 w a xs ∧ ∀ x ∈ xs, (Lit.int k x).wf = true := by
  obtain ⟨css, hl, hf, hr⟩ := rd_cells h
  refine ⟨css.map fun cs => geti cs 0, by simpa using hl, hr.map fun cs hcs => ?_, ?_⟩
  · obtain ⟨n, _, rfl, _, h1⟩ := (hf cs hcs).int
    obtain rfl := h1.nil
    rfl
  · intro x hx
    obtain ⟨cs, hcs, rfl⟩ := List.mem_map.1 hx
    obtain ⟨n, _, rfl, hw, h1⟩ := (hf cs hcs).int
    obtain rfl := h1.nil
    exact hw
theorem rd_pairs {k k' : IntKind} {w : World} {a : Option Addr} {len cap : Nat} (h : RdRow [.int k, .int k'] w a len cap) :
    ∃ xs : List (Int × Int), xs.length = len ∧ Rows (fun p => [Value.int k p.1, .int k' p.2]) 2 w a xs ∧ ∀ x ∈ xs, (Lit.int k x.1).wf = true ∧ (Lit.int k' x.2).wf = true := by
  obtain ⟨css, hl, hf, hr⟩ := rd_cells h
  refine ⟨css.map fun cs => (geti cs 0, geti cs 1), by simpa using hl, hr.map fun cs hcs => ?_, ?_⟩
  · obtain ⟨n, _, rfl, _, h1⟩ := (hf cs hcs).int
    obtain ⟨m, _, rfl, _, h2⟩ := h1.int
    obtain rfl := h2.nil
    rfl
  · intro x hx
    obtain ⟨cs, hcs, rfl⟩ := List.mem_map.1 hx
    obtain ⟨n, _, rfl, hw, h1⟩ := (hf cs hcs).int
    obtain ⟨m, _, rfl, hw', h2⟩ := h1.int
    obtain rfl := h2.nil
    exact ⟨hw, hw'⟩
end Go.Proofs.Ytoklhhcjcecbbaa.M
