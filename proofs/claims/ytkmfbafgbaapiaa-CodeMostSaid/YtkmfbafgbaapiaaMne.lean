/- Rows of rows: what is read, what is built. Conditions: the rows' types differ. -/
import Derived.Test.YtkmfbafgbaapiaaMs
namespace Go.Proofs.Ytkmfbafgbaapiaa.M
open Go.RowKit Go.Proofs.YtkmfbafgbaapiaaW.PrintWords Go.Proofs.YtkmfbafgbaapiaaW.PrintLast Go.Proofs.YtkmfbafgbaapiaaW.PrintMore
set_option linter.unusedVariables false
set_option linter.unusedSimpArgs false

theorem snoc_ind {α : Type} {P : List α → Prop} (h0 : P []) (h1 : ∀ xs x, P xs → P (xs ++ [x])) (xs : List α) : P xs := by
  have : ∀ ys : List α, P ys.reverse := by
    intro ys
    induction ys with
    | nil => exact h0
    | cons y ys ih => rw [List.reverse_cons]; exact h1 _ _ ih
  have h := this xs.reverse
  rwa [List.reverse_reverse] at h
theorem own_cell {w : World} {base g cap n : Nat} {e : TypeId} {xs : List Value} (h : w.ownsRow base e 1 (.slice (some ⟨g, 0, none⟩) n cap) n xs) (j : Nat) (u : Value) (hj : xs[j]? = some u) : w.cell? ⟨g, j, none⟩ = some u ∧ w.frozen? ⟨g, j, none⟩ = false := by
  refine ⟨?_, ?_⟩
  · have := h.cells (g := g) rfl j u hj
    have hadd : (⟨g, 0, none⟩ : Addr).add j = ⟨g, j, none⟩ := by unfold Addr.add; split <;> simp_all
    rw [hadd] at this
    exact this
  · rcases h.2 with ⟨hv, _⟩ | ⟨g', cap', cur, hv, _, hh, _⟩
    · cases hv
    · injection hv with h1 h2 h3
      injection h1 with h1
      injection h1 with h1
      subst h1
      simp [World.frozen?, hh]
theorem own_free {w : World} {base g cap n : Nat} {e : TypeId} {sz : Nat} {xs : List Value} (h : w.ownsRow base e sz (.slice (some ⟨g, 0, none⟩) n cap) n xs) (j : Nat) : w.frozen? ⟨g, j, none⟩ = false := by
  rcases h.2 with ⟨hv, _⟩ | ⟨g', cap', cur, hv, _, hh, _⟩
  · cases hv
  · injection hv with h1 h2 h3
    injection h1 with h1
    injection h1 with h1
    subst h1
    simp [World.frozen?, hh]
theorem own_set1 {w : World} {base g cap n : Nat} {e : TypeId} {xs : List Value} (h : w.ownsRow base e 1 (.slice (some ⟨g, 0, none⟩) n cap) n xs) (j : Nat) (u : Value) (hj : j < n) : (w.setCell ⟨g, j, none⟩ u).ownsRow base e 1 (.slice (some ⟨g, 0, none⟩) n cap) n (xs.set j u) := by
  refine ⟨by rw [List.length_set]; exact h.1, ?_⟩
  rcases h.2 with ⟨hv, _⟩ | ⟨g', cap', cur, hv, hb, hh, hn, hc, hs, ht⟩
  · cases hv
  · injection hv with h1 h2 h3
    injection h1 with h1
    injection h1 with h1
    subst h1
    subst h3
    refine .inr ⟨g, cap, cur.setIfInBounds j u, rfl, hb, ?_, hn, hc, by simpa using hs, ?_⟩
    · simp only [World.setCell, Array.getElem?_modify, if_pos, hh, Option.map_some]
      simp
    · rw [Array.toList_setIfInBounds, ← ht, List.take_set]

theorem kept_ne {w w1 : World} {base : Nat} {e : TypeId} {sz n : Nat} {v v' : Value} {xs : List Value} (h : w.ownsRow base e sz v' n xs) (hg : w.grownBy w1 v.ownBlock) (hn : NeRow v v') : w1.ownsRow base e sz v' n xs := h.kept hg (ne_other hn)

variable {α : Type} {enc : α → List Value} {sz : Nat} {tI tO : TypeId}
/-- Rows that lie for themselves: row j says pss[j]. -/
def Nest (w : World) (base : Nat) (tI : TypeId) (enc : α → List Value) (sz : Nat) (us : List Value) (pss : List (List α)) : Prop :=
  us.length = pss.length ∧ ∀ (j : Nat) u ps, us[j]? = some u → pss[j]? = some ps → w.ownsRow base tI sz u ps.length (ps.flatMap enc)
namespace Nest
variable {w w1 : World} {base : Nat} {us : List Value} {pss : List (List α)}
theorem nil (w : World) (base : Nat) : Nest w base tI enc sz [] ([] : List (List α)) := ⟨rfl, by simp⟩
theorem mem (h : Nest w base tI enc sz us pss) {u : Value} (hu : u ∈ us) : ∃ ps : List α, w.ownsRow base tI sz u ps.length (ps.flatMap enc) := by
  obtain ⟨j, hj, rfl⟩ := List.getElem_of_mem hu
  have hp : j < pss.length := h.1 ▸ hj
  exact ⟨pss[j], h.2 j _ _ (List.getElem?_eq_getElem hj) (List.getElem?_eq_getElem hp)⟩
theorem imp (h : Nest w base tI enc sz us pss) (hk : ∀ u ∈ us, ∀ (n : Nat) xs, w.ownsRow base tI sz u n xs → w1.ownsRow base tI sz u n xs) : Nest w1 base tI enc sz us pss :=
  ⟨h.1, fun j u ps hu hp => hk u (List.mem_of_getElem? hu) _ _ (h.2 j u ps hu hp)⟩
theorem weaken (h : Nest w base tI enc sz us pss) {base' : Nat} (hb : base' ≤ base) : Nest w base' tI enc sz us pss := ⟨h.1, fun j u ps hu hp => own_weaken (h.2 j u ps hu hp) hb⟩
theorem bw (h : Nest w base tI enc sz us pss) (hb : Bw w w1) : Nest w1 base tI enc sz us pss := h.imp fun _ _ _ _ k => pw_own_below k hb
theorem alloc (h : Nest w base tI enc sz us pss) (o : Obj) : Nest (w.alloc o) base tI enc sz us pss := h.imp fun _ _ _ _ k => k.alloc o
theorem grown (h : Nest w base tI enc sz us pss) {v : Value} (hg : w.grownBy w1 v.ownBlock) (hn : ∀ u ∈ us, NeRow v u) : Nest w1 base tI enc sz us pss := h.imp fun u hu _ _ k => kept_ne k hg (hn u hu)
theorem ty (h : Nest w base tI enc sz us pss) {base' sz' n : Nat} {v : Value} {xs : List Value} (ho : w.ownsRow base' tO sz' v n xs) (hne : tO ≠ tI) : ∀ u ∈ us, NeRow v u := fun u hu => by
  obtain ⟨ps, hp⟩ := h.mem hu
  exact ne_types ho hp hne
theorem setCell (h : Nest w base tI enc sz us pss) {a : Addr} (hn : ∀ u ∈ us, some a.block ≠ u.ownBlock) (x : Value) : Nest (w.setCell a x) base tI enc sz us pss := h.imp fun u hu _ _ k => own_setCell k (hn u hu) x
theorem push (h : Nest w base tI enc sz us pss) {u : Value} {ps : List α} (hu : w.ownsRow base tI sz u ps.length (ps.flatMap enc)) : Nest w base tI enc sz (us ++ [u]) (pss ++ [ps]) :=
  ⟨by simp [h.1], fun j u' ps' h1 h2 => by
    rcases Nat.lt_or_ge j us.length with hj | hj
    · rw [List.getElem?_append_left hj] at h1
      rw [List.getElem?_append_left (h.1 ▸ hj)] at h2
      exact h.2 j _ _ h1 h2
    · rw [List.getElem?_append_right hj] at h1
      rw [List.getElem?_append_right (h.1 ▸ hj)] at h2
      rw [h.1] at h1
      cases hk : j - pss.length with
      | zero => rw [hk] at h1 h2; simp at h1 h2; subst h1; subst h2; exact hu
      | succ m => rw [hk] at h1; simp at h1⟩
end Nest

/-- A slice of slices that is read. -/
def Rows2 (enc : α → List Value) (sz : Nat) (w : World) (A : Option Addr) (pss : List (List α)) : Prop :=
  pss.length ≤ 9223372036854775807 ∧ (pss ≠ [] → ∃ ad, A = some ad ∧ ∀ (j : Nat) (ps : List α), pss[j]? = some ps → ∃ B c, w.cell? (ad.add j) = some (.slice B ps.length c) ∧ Rows enc sz w B ps)
namespace Rows2
variable {w w1 : World} {A : Option Addr} {pss : List (List α)}
theorem bw (h : Rows2 enc sz w A pss) (hb : Bw w w1) : Rows2 enc sz w1 A pss :=
  ⟨h.1, fun hn => by
    obtain ⟨ad, e, hc⟩ := h.2 hn
    refine ⟨ad, e, fun j ps hj => ?_⟩
    obtain ⟨B, c, h1, h2⟩ := hc j ps hj
    exact ⟨B, c, hb.kept h1, h2.bw hb⟩⟩
theorem at_ (h : Rows2 enc sz w A pss) (j : Nat) (ps : List α) (hj : pss[j]? = some ps) : ∃ ad B c, A = some ad ∧ w.cell? (ad.add j) = some (.slice B ps.length c) ∧ Rows enc sz w B ps := by
  obtain ⟨ad, e, hc⟩ := h.2 (by rintro rfl; simp at hj)
  obtain ⟨B, c, h1, h2⟩ := hc j ps hj
  exact ⟨ad, B, c, e, h1, h2⟩
theorem own {base base' : Nat} {v : Value} {us : List Value} (hs : ∀ x, (enc x).length = sz) (ho : w.ownsRow base tO 1 v us.length us) (hi : Nest w base' tI enc sz us pss) (hm : ∀ ps ∈ pss, ps.length ≤ 9223372036854775807) (hl : pss.length ≤ 9223372036854775807) :
    ∃ A c, v = .slice A pss.length c ∧ Rows2 enc sz w A pss := by
  rcases Nat.eq_zero_or_pos us.length with h0 | h0
  · obtain ⟨A, c, hv⟩ := own_slice ho
    rw [hi.1] at h0 hv
    obtain rfl := List.length_eq_zero_iff.1 h0
    exact ⟨A, c, hv, by simp, fun h => absurd rfl h⟩
  · obtain ⟨g, cap, rfl, _, _⟩ := ho.form h0
    refine ⟨_, cap, by rw [hi.1], hl, fun _ => ⟨_, rfl, fun j ps hj => ?_⟩⟩
    have hj' : j < us.length := by rw [hi.1]; exact (List.getElem?_eq_some_iff.1 hj).1
    have hu : us[j]? = some us[j] := List.getElem?_eq_getElem hj'
    obtain ⟨B, c, e1, e2⟩ := Rows.own hs (hi.2 j _ _ hu hj) rfl (hm ps (List.mem_of_getElem? hj))
    refine ⟨B, c, ?_, e2⟩
    rw [← e1]
    exact ho.cells (g := g) rfl j _ hu
end Rows2
end Go.Proofs.Ytkmfbafgbaapiaa.M
