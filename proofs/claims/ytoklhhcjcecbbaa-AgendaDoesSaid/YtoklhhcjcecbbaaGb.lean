/- Agenda: a pile of items, and where each key lies: Len, Less, Swap. Conditions: no more than 2^20 items, numbers of their kind. -/
import Derived.Test.YtoklhhcjcecbbaaGa
import Derived.Test.YtoklhhcjcecbbaaMs
import Derived.Test.YtoklhhcjcecbbaaMt0
import Derived.RegionTactic
import Derived.Maps.RangeWalk
namespace Go.Proofs.Ytoklhhcjcecbbaa.M
open Go.RowKit Go.Maps Go.Proofs.YtoklhhcjcecbbaaW.PrintWords Go.Proofs.YtoklhhcjcecbbaaW.PrintLast Go.Proofs.YtoklhhcjcecbbaaW.PrintMore
set_option linter.unusedVariables false
set_option linter.unusedSimpArgs false
abbrev It := Int × Int
abbrev encI : It → List Value := fun p => [.int .i64 p.1, .int .i64 p.2]
abbrev itV (x : It) : Value := .agg #[.int .i64 x.1, .int .i64 x.2]
def wfI (x : It) : Prop := (Lit.int .i64 x.1).wf = true ∧ (Lit.int .i64 x.2).wf = true
def aheadB (x o : It) : Bool := decide (x.1 < o.1) || (x.1 == o.1 && decide (x.2 < o.2))
set_option maxHeartbeats 1000000 in
theorem ahead_calls (x o : It) (w : World) : Calls Try.prog 77 #[itV x, itV o] w fun e w' => e = .returned (.bool (aheadB x o)) ∧ Bw w w' := by
  obtain ⟨a, b⟩ := x
  obtain ⟨c, d⟩ := o
  have HB := Aside0.mk (Bw.refl w)
  cases h1 : decide (a < c)
  · cases h2 : (a == c)
    · have HA := Aside0.mk (show aheadB (a, b) (c, d) = false by unfold aheadB; rw [h1, h2]; rfl)
      go_enter Try.func77, Try.ntmps77
      go_wp2_with fail
      go_ret
      exact ⟨ret_bool HA.out.symm, (by repeat (first | (with_reducible first | exact HB.out) | refine Bw.alloc ?_ _ | refine Bw.setCell ?_ (by first | exact Nat.le_refl _ | (simp; omega)) _ | refine Bw.drew ?_ | refine Bw.drewN ?_ _))⟩
    · have HA := Aside0.mk (show aheadB (a, b) (c, d) = decide (b < d) by unfold aheadB; rw [h1, h2]; rfl)
      go_enter Try.func77, Try.ntmps77
      go_wp2_with fail
      go_ret
      exact ⟨ret_bool HA.out.symm, (by repeat (first | (with_reducible first | exact HB.out) | refine Bw.alloc ?_ _ | refine Bw.setCell ?_ (by first | exact Nat.le_refl _ | (simp; omega)) _ | refine Bw.drew ?_ | refine Bw.drewN ?_ _))⟩
  · have HA := Aside0.mk (show aheadB (a, b) (c, d) = true by unfold aheadB; rw [h1]; rfl)
    go_enter Try.func77, Try.ntmps77
    go_wp2_with fail
    go_ret
    exact ⟨ret_bool HA.out.symm, (by repeat (first | (with_reducible first | exact HB.out) | refine Bw.alloc ?_ _ | refine Bw.setCell ?_ (by first | exact Nat.le_refl _ | (simp; omega)) _ | refine Bw.drew ?_ | refine Bw.drewN ?_ _))⟩
/-- Each key's place, and no other key. -/
structure Pl (D : DataW Unit) (L : List It) : Prop where
  at_ : ∀ (i : Nat) (x : It), L[i]? = some x → D.atKey (.int .i64 x.2) (.lit (.int .i64 0)) = .lit (.int .i64 (i : Int))
  has_ : ∀ k : Int, (Lit.int .i64 k).wf = true → Maps.has D (.int .i64 k) = L.any (fun x => x.2 == k)
theorem nodup_le {α : Type} [DecidableEq α] : ∀ (a b : List α), a.Nodup → (∀ x ∈ a, x ∈ b) → a.length ≤ b.length
  | [], _, _, _ => by simp
  | x :: a, b, h, hs => by
    rw [List.nodup_cons] at h
    have hx : x ∈ b := hs x (by simp)
    have h1 := nodup_le a (b.erase x) h.2 fun y hy => (List.mem_erase_of_ne (by rintro rfl; exact h.1 hy)).2 (hs y (by simp [hy]))
    rw [List.length_erase_of_mem hx] at h1
    have := List.length_pos_of_mem hx
    simp only [List.length_cons]
    omega
theorem keyOf_int_inv {v : Value} {l : Lit} (h : keyOf Try.prog 3 v = some l) : ∃ a, l = .int .i64 a ∧ (Lit.int .i64 a).wf = true := by
  cases v <;> simp [keyOf, Try.underlying3, mapKey] at h
  rename_i q a
  obtain ⟨h1, h2⟩ := h
  exact ⟨a, by simp_all, by simp_all⟩
/-- A map holds no more than its items. -/
theorem mi_tight {w : World} {mb n : Nat} {D : DataW Unit} {L : List It} (h : isMi w mb n D) (hp : Pl D L) : isMi w mb L.length D := by
  obtain ⟨es', he', hpw, hkl⟩ := World.ownsMap.entries h lawI
  obtain ⟨es, clock, hb, F, hs, rfl⟩ := h
  refine ⟨es, clock, hb, F, ?_, rfl⟩
  have he : es' = (es.toList.map (Go.WideElems.rg Try.prog 3 (plainElem (H := Unit) Try.prog 3))).foldr DataW.insert [] := by
    injection he' with he'
    exact he'.symm
  have hlen : es'.length = es.size := by rw [he, length_sorted]; simp
  have hkeys : ∀ p ∈ es', ∃ a, p.1 = .int .i64 a ∧ (Lit.int .i64 a).wf = true := by
    intro p hp
    rw [he] at hp
    obtain ⟨v, hv⟩ := fit_keys F p (mem_sorted.1 hp)
    exact keyOf_int_inv hv
  have hnd : (es'.map (·.1)).Nodup := by
    rw [List.nodup_iff_pairwise_ne, List.pairwise_map]
    exact hpw
  have hin : ∀ l ∈ es'.map (·.1), l ∈ L.map fun x : It => Lit.int .i64 x.2 := by
    intro l hl
    obtain ⟨p, hp1, rfl⟩ := List.mem_map.1 hl
    obtain ⟨a, ha, hw⟩ := hkeys p hp1
    have h1 : Maps.has (DataW.map es') p.1 = true := by
      rw [has_eq, List.any_eq_true]
      exact ⟨p, hp1, WideAt.sameKey_self (hkl p hp1)⟩
    rw [← he', ha, hp.has_ a hw, List.any_eq_true] at h1
    obtain ⟨x, hx, hxa⟩ := h1
    rw [ha]
    exact List.mem_map.2 ⟨x, hx, by rw [eq_of_beq hxa]⟩
  have := @nodup_le _ (fun a b => Classical.propDecidable (a = b)) _ _ hnd hin
  simp only [List.length_map] at this
  omega
structure IsPile (w : World) (base b mb : Nat) (v : Value) (L : List It) (D : DataW Unit) : Prop where
  le : base ≤ b ∧ base ≤ mb
  blk : Blk w b #[v, .map (some mb)] 89
  row : w.ownsRow base 30 2 v L.length (L.flatMap encI)
  map : isMi w mb L.length D
  pl : Pl D L
  wf : ∀ x ∈ L, wfI x
  nd : (L.map (·.2)).Nodup
  small : L.length ≤ 1000000
section
variable {w w1 : World} {base b mb : Nat} {v : Value} {L : List It} {D : DataW Unit}
theorem IsPile.bw (h : IsPile w base b mb v L D) (hb : Bw w w1) : IsPile w1 base b mb v L D :=
  ⟨h.le, h.blk.bw hb, pw_own_below h.row hb, mi_bw h.map hb, h.pl, h.wf, h.nd, h.small⟩
theorem IsPile.cells (h : IsPile w base b mb v L D) : w.cell? ⟨b, 0, none⟩ = some v ∧ w.cell? ⟨b, 1, none⟩ = some (.map (some mb)) ∧ w.frozen? ⟨b, 0, none⟩ = false ∧ b < w.heap.size :=
  ⟨h.blk.cell 0 _ rfl, h.blk.cell 1 _ rfl, h.blk.free 0, h.blk.lt⟩
/-- The items' row, where there are items. -/
theorem IsPile.rowAt (h : IsPile w base b mb v L D) {i : Nat} {x : It} (hx : L[i]? = some x) : ∃ g cap, v = .slice (some ⟨g, 0, none⟩) L.length cap ∧ w.cell? ⟨g, i * 2, none⟩ = some (.int .i64 x.1) ∧ w.cell? ⟨g, i * 2 + 1, none⟩ = some (.int .i64 x.2) ∧ (∀ j, w.frozen? ⟨g, j, none⟩ = false) ∧ g < w.heap.size := by
  have hlt := (List.getElem?_eq_some_iff.1 hx).1
  obtain ⟨g, cap, rfl, _, _⟩ := h.row.form (by omega)
  have c0 := own_cellg h.row (i * 2 + 0) _ (flat_get (enc := encI) (sz := 2) (fun _ => rfl) L i x hx 0 _ rfl)
  have c1 := own_cellg h.row (i * 2 + 1) _ (flat_get (enc := encI) (sz := 2) (fun _ => rfl) L i x hx 1 _ rfl)
  exact ⟨g, cap, rfl, c0, c1, fun j => own_free h.row j, own_lt h.row g rfl⟩
theorem pLen_calls (h : IsPile w base b mb v L D) : Calls Try.prog 44 #[.pointer (some ⟨b, 0, none⟩)] w fun e w' => e = .returned (.int .i64 L.length) ∧ Bw w w' := by
  have HB := Aside0.mk (Bw.refl w)
  obtain ⟨c0, c1, f0, hlt⟩ := h.cells
  obtain ⟨A, cap, hv⟩ := own_slice h.row
  subst hv
  clear h
  go_enter Try.func44, Try.ntmps44
  go_wp2_with fail
  go_ret
  exact ⟨rfl, HB.out⟩
set_option maxHeartbeats 1000000 in
theorem pLess_calls (h : IsPile w base b mb v L D) (i k : Nat) (x y : It) (hx : L[i]? = some x) (hy : L[k]? = some y) : Calls Try.prog 146 #[.pointer (some ⟨b, 0, none⟩), .int .i64 (i : Int), .int .i64 (k : Int)] w fun e w' => e = .returned (.bool (aheadB x y)) ∧ Bw w w' := by
  have HB := Aside0.mk (Bw.refl w)
  obtain ⟨c0, c1, f0, hlt⟩ := h.cells
  have hil := (List.getElem?_eq_some_iff.1 hx).1
  have hkl := (List.getElem?_eq_some_iff.1 hy).1
  have hsm := h.small
  obtain ⟨g, cap, rfl, x0, x1, _, _⟩ := h.rowAt hx
  obtain ⟨g', cap', hv, y0, y1, _, _⟩ := h.rowAt hy
  injection hv with hv1 _ hv3
  injection hv1 with hv1
  injection hv1 with hv1
  subst hv1
  subst hv3
  obtain ⟨xa, xb⟩ := x
  obtain ⟨ya, yb⟩ := y
  have C0 : ∀ p : BwW w, p.W.cell? ⟨b, 0, none⟩ = some (.slice (some ⟨g, 0, none⟩) L.length cap) := fun p => p.cell c0
  have X0 : ∀ p : BwW w, p.W.cell? ⟨g, i * 2, none⟩ = some (.int .i64 xa) := fun p => p.cell x0
  have X1 : ∀ p : BwW w, p.W.cell? ⟨g, i * 2 + 1, none⟩ = some (.int .i64 xb) := fun p => p.cell x1
  have Y0 : ∀ p : BwW w, p.W.cell? ⟨g, k * 2, none⟩ = some (.int .i64 ya) := fun p => p.cell y0
  have Y1 : ∀ p : BwW w, p.W.cell? ⟨g, k * 2 + 1, none⟩ = some (.int .i64 yb) := fun p => p.cell y1
  have HA := Aside0.mk (fun W => ahead_calls (xa, xb) (ya, yb) W)
  clear h hx hy
  go_enter Try.func146, Try.ntmps146
  go_wp2_with fail
  refine wp_region_bw (by kernel_rfl) (by kernel_rfl) ?_
  repeat (first | go_big_quiet_skip | (go_big_quiet_want; go_big_quiet_op; first | go_big_quiet_on | go_big_quiet_call (first | (go_at_call 77; exact qcall (HA.out _)))))
  refine wpQuiet_nil ?_
  rintro w1 ⟨⟨_, hb1⟩, rfl⟩
  go_wp2_with fail
  go_ret
  exact ⟨rfl, hb1⟩
end
end Go.Proofs.Ytoklhhcjcecbbaa.M
