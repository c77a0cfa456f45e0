/- Rows of rows: what is read, what is built. Conditions: the rows' types differ. -/
import Derived.Test.YtoklhhcjcecbbaaMs
namespace Go.Proofs.Ytoklhhcjcecbbaa.M
open Go.RowKit Go.Proofs.YtoklhhcjcecbbaaW.PrintWords Go.Proofs.YtoklhhcjcecbbaaW.PrintLast Go.Proofs.YtoklhhcjcecbbaaW.PrintMore
set_option linter.unusedVariables false
set_option linter.unusedSimpArgs false

theorem snoc_ind {α : Type} {P : List α → Prop} (h0 : P []) (h1 : ∀ xs x, P xs → P (xs ++ [x])) (xs : List α) : P xs := by
  have : ∀ ys : List α, P ys.reverse := by
    intro ys
    induction ys with
    | nil => exact h0
    | cons y ys ih => rw [List.reverse_cons]; exact h1 _ _ ih
  have h := this xs.reverse
  rwa [List.reverse_reverse] at h
theorem own_cell {w : World} {base g cap n : Nat} {e : TypeId} {xs : List Value} (h : w.ownsRow base e 1 (.slice (some ⟨g, 0, none⟩) n cap) n xs) (j : Nat) (u : Value) (hj : xs[j]? = some u) : w.cell? ⟨g, j, none⟩ = some u ∧ w.frozen? ⟨g, j, none⟩ = false := by
  refine ⟨?_, ?_⟩
  · have := h.cells (g := g) rfl j u hj
    have hadd : (⟨g, 0, none⟩ : Addr).add j = ⟨g, j, none⟩ := by unfold Addr.add; split <;> simp_all
    rw [hadd] at this
    exact this
  · rcases h.2 with ⟨hv, _⟩ | ⟨g', cap', cur, hv, _, hh, _⟩
    · cases hv
    · injection hv with h1 h2 h3
      injection h1 with h1
      injection h1 with h1
      subst h1
      simp [World.frozen?, hh]
theorem own_len {w : World} {base n : Nat} {e : TypeId} {sz : Nat} {v : Value} {xs : List Value} (h : w.ownsRow base e sz v n xs) : n ≤ 9223372036854775807 := by
  rcases h.2 with ⟨_, rfl⟩ | ⟨g, cap, cur, _, _, _, h1, h2, _⟩
  · omega
  · simp only [maxLen] at h2; omega
theorem own_free {w : World} {base g cap n : Nat} {e : TypeId} {sz : Nat} {xs : List Value} (h : w.ownsRow base e sz (.slice (some ⟨g, 0, none⟩) n cap) n xs) (j : Nat) : w.frozen? ⟨g, j, none⟩ = false := by
  rcases h.2 with ⟨hv, _⟩ | ⟨g', cap', cur, hv, _, hh, _⟩
  · cases hv
  · injection hv with h1 h2 h3
    injection h1 with h1
    injection h1 with h1
    subst h1
    simp [World.frozen?, hh]
theorem own_set1 {w : World} {base g cap n : Nat} {e : TypeId} {xs : List Value} (h : w.ownsRow base e 1 (.slice (some ⟨g, 0, none⟩) n cap) n xs) (j : Nat) (u : Value) (hj : j < n) : (w.setCell ⟨g, j, none⟩ u).ownsRow base e 1 (.slice (some ⟨g, 0, none⟩) n cap) n (xs.set j u) := by
  refine ⟨by rw [List.length_set]; exact h.1, ?_⟩
  rcases h.2 with ⟨hv, _⟩ | ⟨g', cap', cur, hv, hb, hh, hn, hc, hs, ht⟩
  · cases hv
  · injection hv with h1 h2 h3
    injection h1 with h1
    injection h1 with h1
    subst h1
    subst h3
    refine .inr ⟨g, cap, cur.setIfInBounds j u, rfl, hb, ?_, hn, hc, by simpa using hs, ?_⟩
    · simp only [World.setCell, Array.getElem?_modify, if_pos, hh, Option.map_some]
      simp
    · rw [Array.toList_setIfInBounds, ← ht, List.take_set]

theorem kept_ne {w w1 : World} {base : Nat} {e : TypeId} {sz n : Nat} {v v' : Value} {xs : List Value} (h : w.ownsRow base e sz v' n xs) (hg : w.grownBy w1 v.ownBlock) (hn : NeRow v v') : w1.ownsRow base e sz v' n xs := h.kept hg (ne_other hn)

variable {α : Type} {enc : α → List Value} {sz : Nat} {tI tO : TypeId}
/-- Rows that lie for themselves: row j says pss[j]. -/
def Nest (w : World) (base : Nat) (tI : TypeId) (enc : α → List Value) (sz : Nat) (us : List Value) (pss : List (List α)) : Prop :=
  us.length = pss.length ∧ ∀ (j : Nat) u ps, us[j]? = some u → pss[j]? = some ps → w.ownsRow base tI sz u ps.length (ps.flatMap enc)
namespace Nest
variable {w w1 : World} {base : Nat} {us : List Value} {pss : List (List α)}
theorem nil (w : World) (base : Nat) : Nest w base tI enc sz [] ([] : List (List α)) := ⟨rfl, by simp⟩
theorem mem (h : Nest w base tI enc sz us pss) {u : Value} (hu : u ∈ us) : ∃ ps : List α, w.ownsRow base tI sz u ps.length (ps.flatMap enc) := by
  obtain ⟨j, hj, rfl⟩ := List.getElem_of_mem hu
  have hp : j < pss.length := h.1 ▸ hj
  exact ⟨pss[j], h.2 j _ _ (List.getElem?_eq_getElem hj) (List.getElem?_eq_getElem hp)⟩
theorem imp (h : Nest w base tI enc sz us pss) (hk : ∀ u ∈ us, ∀ (n : Nat) xs, w.ownsRow base tI sz u n xs → w1.ownsRow base tI sz u n xs) : Nest w1 base tI enc sz us pss :=
  ⟨h.1, fun j u ps hu hp => hk u (List.mem_of_getElem? hu) _ _ (h.2 j u ps hu hp)⟩
theorem weaken (h : Nest w base tI enc sz us pss) {base' : Nat} (hb : base' ≤ base) : Nest w base' tI enc sz us pss := ⟨h.1, fun j u ps hu hp => own_weaken (h.2 j u ps hu hp) hb⟩
theorem bw (h : Nest w base tI enc sz us pss) (hb : Bw w w1) : Nest w1 base tI enc sz us pss := h.imp fun _ _ _ _ k => pw_own_below k hb
theorem alloc (h : Nest w base tI enc sz us pss) (o : Obj) : Nest (w.alloc o) base tI enc sz us pss := h.imp fun _ _ _ _ k => k.alloc o
theorem grown (h : Nest w base tI enc sz us pss) {v : Value} (hg : w.grownBy w1 v.ownBlock) (hn : ∀ u ∈ us, NeRow v u) : Nest w1 base tI enc sz us pss := h.imp fun u hu _ _ k => kept_ne k hg (hn u hu)
theorem ty (h : Nest w base tI enc sz us pss) {base' sz' n : Nat} {v : Value} {xs : List Value} (ho : w.ownsRow base' tO sz' v n xs) (hne : tO ≠ tI) : ∀ u ∈ us, NeRow v u := fun u hu => by
  obtain ⟨ps, hp⟩ := h.mem hu
  exact ne_types ho hp hne
theorem setCell (h : Nest w base tI enc sz us pss) {a : Addr} (hn : ∀ u ∈ us, some a.block ≠ u.ownBlock) (x : Value) : Nest (w.setCell a x) base tI enc sz us pss := h.imp fun u hu _ _ k => own_setCell k (hn u hu) x
theorem push (h : Nest w base tI enc sz us pss) {u : Value} {ps : List α} (hu : w.ownsRow base tI sz u ps.length (ps.flatMap enc)) : Nest w base tI enc sz (us ++ [u]) (pss ++ [ps]) :=
  ⟨by simp [h.1], fun j u' ps' h1 h2 => by
    rcases Nat.lt_or_ge j us.length with hj | hj
    · rw [List.getElem?_append_left hj] at h1
      rw [List.getElem?_append_left (h.1 ▸ hj)] at h2
      exact h.2 j _ _ h1 h2
    · rw [List.getElem?_append_right hj] at h1
      rw [List.getElem?_append_right (h.1 ▸ hj)] at h2
      rw [h.1] at h1
      cases hk : j - pss.length with
      | zero => rw [hk] at h1 h2; simp at h1 h2; subst h1; subst h2; exact hu
      | succ m => rw [hk] at h1; simp at h1⟩
end Nest

/-- A slice of slices that is read. -/
def Rows2 (enc : α → List Value) (sz : Nat) (w : World) (A : Option Addr) (pss : List (List α)) : Prop :=
  pss.length ≤ 9223372036854775807 ∧ (pss ≠ [] → ∃ ad, A = some ad ∧ ∀ (j : Nat) (ps : List α), pss[j]? = some ps → ∃ B c, w.cell? (ad.add j) = some (.slice B ps.length c) ∧ Rows enc sz w B ps)
namespace Rows2
variable {w w1 : World} {A : Option Addr} {pss : List (List α)}
theorem bw (h : Rows2 enc sz w A pss) (hb : Bw w w1) : Rows2 enc sz w1 A pss :=
  ⟨h.1, fun hn => by
    obtain ⟨ad, e, hc⟩ := h.2 hn
    refine ⟨ad, e, fun j ps hj => ?_⟩
    obtain ⟨B, c, h1, h2⟩ := hc j ps hj
    exact ⟨B, c, hb.kept h1, h2.bw hb⟩⟩
theorem at_ (h : Rows2 enc sz w A pss) (j : Nat) (ps : List α) (hj : pss[j]? = some ps) : ∃ ad B c, A = some ad ∧ w.cell? (ad.add j) = some (.slice B ps.length c) ∧ Rows enc sz w B ps := by
  obtain ⟨ad, e, hc⟩ := h.2 (by rintro rfl; simp at hj)
  obtain ⟨B, c, h1, h2⟩ := hc j ps hj
  exact ⟨ad, B, c, e, h1, h2⟩
theorem own {base base' : Nat} {v : Value} {us : List Value} (hs : ∀ x, (enc x).length = sz) (ho : w.ownsRow base tO 1 v us.length us) (hi : Nest w base' tI enc sz us pss) (hm : ∀ ps ∈ pss, ps.length ≤ 9223372036854775807) (hl : pss.length ≤ 9223372036854775807) :
    ∃ A c, v = .slice A pss.length c ∧ Rows2 enc sz w A pss := by
  rcases Nat.eq_zero_or_pos us.length with h0 | h0
  · obtain ⟨A, c, hv⟩ := own_slice ho
    rw [hi.1] at h0 hv
    obtain rfl := List.length_eq_zero_iff.1 h0
    exact ⟨A, c, hv, by simp, fun h => absurd rfl h⟩
  · obtain ⟨g, cap, rfl, _, _⟩ := ho.form h0
    refine ⟨_, cap, by rw [hi.1], hl, fun _ => ⟨_, rfl, fun j ps hj => ?_⟩⟩
    have hj' : j < us.length := by rw [hi.1]; exact (List.getElem?_eq_some_iff.1 hj).1
    have hu : us[j]? = some us[j] := List.getElem?_eq_getElem hj'
    obtain ⟨B, c, e1, e2⟩ := Rows.own hs (hi.2 j _ _ hu hj) rfl (hm ps (List.mem_of_getElem? hj))
    refine ⟨B, c, ?_, e2⟩
    rw [← e1]
    exact ho.cells (g := g) rfl j _ hu
end Rows2

theorem flat_at {α : Type} {enc : α → List Value} {sz : Nat} (hs : ∀ x, (enc x).length = sz) (xs : List α) : ∀ (j : Nat) (u : Value), (xs.flatMap enc)[j]? = some u → ∃ q x i, xs[q]? = some x ∧ (enc x)[i]? = some u ∧ j = q * sz + i := by
  induction xs with
  | nil => intro j u h; simp at h
  | cons y ys ih =>
    intro j u h
    rw [List.flatMap_cons] at h
    rcases Nat.lt_or_ge j (enc y).length with hj | hj
    · rw [List.getElem?_append_left hj] at h
      exact ⟨0, y, j, rfl, h, by omega⟩
    · rw [List.getElem?_append_right hj] at h
      obtain ⟨q, x, i, h1, h2, h3⟩ := ih _ u h
      refine ⟨q + 1, x, i, by simpa using h1, h2, ?_⟩
      rw [hs] at h3 hj
      rw [Nat.succ_mul]
      omega
theorem flat_len {α : Type} {enc : α → List Value} {sz : Nat} (hs : ∀ x, (enc x).length = sz) (xs : List α) : (xs.flatMap enc).length = xs.length * sz := by
  induction xs with
  | nil => simp
  | cons y ys ih => rw [List.flatMap_cons, List.length_append, ih, hs, List.length_cons, Nat.succ_mul]; omega
theorem Rows.flat {α : Type} {enc : α → List Value} {sz : Nat} {w : World} {ad : Addr} {xs : List α} (h : Rows enc sz w (some ad) xs) (hs : ∀ x, (enc x).length = sz) : ∀ (j : Nat) u, (xs.flatMap enc)[j]? = some u → w.cell? (ad.add j) = some u := by
  intro j u hu
  obtain ⟨q, x, i, h1, h2, rfl⟩ := flat_at hs xs j u hu
  obtain ⟨ad', e, hc⟩ := h.at_ q x h1
  injection e with e
  subst e
  exact hc i u h2
/-- append(v, ys...) of rows that are read. -/
theorem append_rows {P : Program} {ops : Array Oper} {rest : List Oper} {o : Oper} {a : Act} {Q : Exit → Act → World → Prop} {α : Type} (enc : α → List Value) {w0 W : World} (base : Nat) (hgd : o.guard = none) (s x : Operand) (t e : TypeId) (z : Value) (size bytes : Nat)
    (ho : o.op = .call { callee := .builtin .append, args := #[s, x], argTypes := #[t, t] })
    (ht : P.underlying t = some (.slice e)) (hinfo : (P.info? e).map (fun i => (i.zero, i.size, i.bytes)) = some (some z, size, bytes)) (hz : z.cells.size = size) (hs0 : 0 < size) (hb0 : 0 < bytes)
    (v : Value) (n : Nat) (xs : List Value) (ys : List α) (ad : Addr) (c : Nat) (hs : a.eval s = v) (hx : a.eval x = .slice (some ad) ys.length c) (hen : ∀ x, (enc x).length = size) (h1 : ∀ x, ∀ u ∈ enc x, u.oneCell' = true)
    (HO : W.ownsRow base e size v n xs) (HR : Rows enc size W (some ad) ys) (HB : Below base w0 W) (hbase : base ≤ W.heap.size) (hl : (n + ys.length) * bytes ≤ 140737488355328)
    (h : ∀ v1 w1, w1.ownsRow base e size v1 (n + ys.length) (xs ++ ys.flatMap enc) → Below base w0 w1 → W.grownBy w1 v.ownBlock → (v1.ownBlock = v.ownBlock ∨ ∃ b, v1.ownBlock = some b ∧ W.heap.size ≤ b) → wpList P ops Q rest (a.put o.dst v1) w1) :
    wpList P ops Q (o :: rest) a W := by
  obtain ⟨i0, hi, hzz⟩ := Option.map_eq_some_iff.1 hinfo
  simp only [Prod.mk.injEq] at hzz
  obtain ⟨hz0, hz1, hz2⟩ := hzz
  have hlen : n + ys.length ≤ 140737488355328 := Nat.le_trans (Nat.le_mul_of_pos_right _ hb0) hl
  refine wpList_append_own_at W hgd s x t ho base e i0 z size bytes ht hi hz0 hz1 hz2 hz hs0 v n xs hs HO ad ys.length c (ys.flatMap enc) hx (flat_len hen ys) (HR.flat hen) ?_ (by simp only [maxLen]; omega) hl hbase ?_
  · intro u hu
    obtain ⟨x, _, hx⟩ := List.mem_flatMap.1 hu
    exact h1 x u hx
  · intro v1 w1 hown hg _ hat
    refine h v1 w1 hown (HB.grown hg hbase (own_base HO)) hg ?_
    rcases hat with hat | hat
    · exact .inl hat
    · exact .inr ⟨_, hat, Nat.le_refl _⟩
end Go.Proofs.Ytoklhhcjcecbbaa.M
