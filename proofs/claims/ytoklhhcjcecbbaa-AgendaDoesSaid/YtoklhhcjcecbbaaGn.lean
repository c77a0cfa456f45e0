/- Agenda: plain facts of a heap: what comes ahead, up, down, push, pop. No program in sight. -/
import Derived.Test.YtoklhhcjcecbbaaGj
namespace Go.Proofs.Ytoklhhcjcecbbaa.M
set_option linter.unusedVariables false
set_option linter.unusedSimpArgs false
/-- y is not behind x. -/
def le (y x : It) : Prop := aheadB x y = false
theorem le_iff {y x : It} : le y x ↔ (y.1 < x.1 ∨ (y.1 = x.1 ∧ y.2 ≤ x.2)) := by
  unfold le aheadB
  obtain ⟨a, b⟩ := x
  obtain ⟨c, d⟩ := y
  simp only [Bool.or_eq_false_iff, decide_eq_false_iff_not, Bool.and_eq_false_iff, beq_eq_false_iff_ne]
  omega
theorem lt_iff {y x : It} : aheadB y x = true ↔ (y.1 < x.1 ∨ (y.1 = x.1 ∧ y.2 < x.2)) := by
  unfold aheadB
  obtain ⟨a, b⟩ := x
  obtain ⟨c, d⟩ := y
  simp only [Bool.or_eq_true, decide_eq_true_eq, Bool.and_eq_true, beq_iff_eq]
theorem le_trans {a b c : It} (h : le a b) (k : le b c) : le a c := by rw [le_iff] at *; omega
theorem le_of_lt {a b : It} (h : aheadB a b = true) : le a b := by rw [le_iff]; rw [lt_iff] at h; omega
theorem le_refl (a : It) : le a a := by rw [le_iff]; omega
/-- A heap's first n. -/
def HeapN (L : List It) (n : Nat) : Prop := ∀ c x y, 0 < c → c < n → L[c]? = some x → L[(c - 1) / 2]? = some y → le y x
def UpEx (L : List It) (n i : Nat) : Prop :=
  (∀ c x y, 0 < c → c < n → c ≠ i → L[c]? = some x → L[(c - 1) / 2]? = some y → le y x) ∧
  (∀ c x y, 0 < c → c < n → (c - 1) / 2 = i → 0 < i → L[c]? = some x → L[(i - 1) / 2]? = some y → le y x)
def DnEx (L : List It) (n i : Nat) : Prop :=
  (∀ c x y, 0 < c → c < n → (c - 1) / 2 ≠ i → L[c]? = some x → L[(c - 1) / 2]? = some y → le y x) ∧
  (∀ c x y, 0 < c → c < n → (c - 1) / 2 = i → 0 < i → L[c]? = some x → L[(i - 1) / 2]? = some y → le y x)
def Mid (L : List It) (n i : Nat) : Prop :=
  (∀ c x y, 0 < c → c < n → c ≠ i → (c - 1) / 2 ≠ i → L[c]? = some x → L[(c - 1) / 2]? = some y → le y x) ∧
  (∀ c x y, 0 < c → c < n → (c - 1) / 2 = i → 0 < i → L[c]? = some x → L[(i - 1) / 2]? = some y → le y x)
theorem getLt {L : List It} {i : Nat} (h : i < L.length) : ∃ x, L[i]? = some x := ⟨_, List.getElem?_eq_getElem h⟩
theorem up_heap : ∀ (f : Nat) (L : List It) (n j : Nat), j < f → j < n → n ≤ L.length → UpEx L n j → HeapN (upL f L j) n
  | 0, _, _, _, h, _, _, _ => absurd h (Nat.not_lt_zero _)
  | f + 1, L, n, j, hf, hj, hn, ⟨h1, h2⟩ => by
    rw [upL]
    by_cases hj0 : j = 0
    · rw [if_pos hj0]
      intro c x y c0 cn hx hy
      exact h1 c x y c0 cn (by omega) hx hy
    · rw [if_neg hj0]
      obtain ⟨x, hx⟩ := getLt (L := L) (i := j) (by omega)
      obtain ⟨y, hy⟩ := getLt (L := L) (i := (j - 1) / 2) (by omega)
      rw [hx, hy]
      dsimp only
      by_cases hb : aheadB x y = true
      · rw [if_pos hb]
        refine up_heap f _ n _ (by omega) (by omega) (by rw [swapL_len]; exact hn) ⟨?_, ?_⟩
        · intro c u v c0 cn ci hu hv
          rw [swapL_at hy hx] at hu hv
          by_cases e1 : c = j
          · rw [if_pos e1] at hu
            rw [if_neg (by omega), if_pos (by rw [e1])] at hv
            obtain rfl := Option.some.inj hu
            obtain rfl := Option.some.inj hv
            exact le_of_lt hb
          · rw [if_neg e1, if_neg ci] at hu
            by_cases e2 : (c - 1) / 2 = j
            · rw [if_pos e2] at hv
              obtain rfl := Option.some.inj hv
              exact h2 c u y c0 cn e2 (by omega) hu hy
            · rw [if_neg e2] at hv
              by_cases e3 : (c - 1) / 2 = (j - 1) / 2
              · rw [if_pos e3] at hv
                obtain rfl := Option.some.inj hv
                exact le_trans (le_of_lt hb) (h1 c u y c0 cn e1 hu (by rw [e3]; exact hy))
              · rw [if_neg e3] at hv
                exact h1 c u v c0 cn e1 hu hv
        · intro c u v c0 cn e2 hp hu hv
          rw [swapL_at hy hx] at hu hv
          rw [if_neg (by omega), if_neg (by omega)] at hv
          have hvy : le v y := h1 ((j - 1) / 2) y v hp (by omega) (by omega) hy hv
          by_cases e1 : c = j
          · rw [if_pos e1] at hu
            obtain rfl := Option.some.inj hu
            exact hvy
          · rw [if_neg e1, if_neg (by omega)] at hu
            exact le_trans hvy (h1 c u y c0 cn e1 hu (by rw [e2]; exact hy))
      · rw [if_neg hb]
        intro c u v c0 cn hu hv
        by_cases e1 : c = j
        · subst e1
          obtain rfl := Option.some.inj (hx.symm.trans hu)
          obtain rfl := Option.some.inj (hy.symm.trans hv)
          exact Bool.eq_false_iff.2 hb
        · exact h1 c u v c0 cn e1 hu hv
theorem up_perm : ∀ (f : Nat) (L : List It) (j : Nat), (upL f L j).Perm L
  | 0, L, _ => List.Perm.refl _
  | f + 1, L, j => by
    rw [upL]
    split
    · exact List.Perm.refl _
    · split
      · rename_i x y hx hy
        split
        · exact (up_perm f _ _).trans (swapL_perm hy hx)
        · exact List.Perm.refl _
      · exact List.Perm.refl _
theorem down_perm : ∀ (f : Nat) (L : List It) (n i : Nat), (downL f L n i).1.Perm L
  | 0, L, n, i => List.Perm.refl _
  | f + 1, L, n, i => by
    rw [downL]
    split
    · exact List.Perm.refl _
    · split
      · rename_i y x hy hx
        split
        · exact (down_perm f _ _ _).trans (swapL_perm hx hy)
        · exact List.Perm.refl _
      · exact List.Perm.refl _
theorem kid_least {L : List It} {n i : Nat} {y : It} (hn : n ≤ L.length) (h : 2 * i + 1 < n) (hy : L[kidL L n i]? = some y) :
    (kidL L n i - 1) / 2 = i ∧ ∀ c z, 0 < c → c < n → (c - 1) / 2 = i → L[c]? = some z → le y z := by
  obtain ⟨u, hu⟩ := getLt (L := L) (i := 2 * i + 1) (by omega)
  unfold kidL at hy ⊢
  by_cases h2 : 2 * i + 1 + 1 < n
  · obtain ⟨v, hv⟩ := getLt (L := L) (i := 2 * i + 1 + 1) (by omega)
    rw [if_pos h2, hu, hv] at hy ⊢
    dsimp only at hy ⊢
    by_cases hb : aheadB v u = true
    · rw [if_pos hb] at hy ⊢
      obtain rfl := Option.some.inj (hv.symm.trans hy)
      refine ⟨by omega, fun c z c0 cn ce hz => ?_⟩
      rcases (by omega : c = 2 * i + 1 ∨ c = 2 * i + 1 + 1) with rfl | rfl
      · obtain rfl := Option.some.inj (hu.symm.trans hz)
        exact le_of_lt hb
      · obtain rfl := Option.some.inj (hv.symm.trans hz)
        exact le_refl _
    · rw [if_neg hb] at hy ⊢
      obtain rfl := Option.some.inj (hu.symm.trans hy)
      refine ⟨by omega, fun c z c0 cn ce hz => ?_⟩
      rcases (by omega : c = 2 * i + 1 ∨ c = 2 * i + 1 + 1) with rfl | rfl
      · obtain rfl := Option.some.inj (hu.symm.trans hz)
        exact le_refl _
      · obtain rfl := Option.some.inj (hv.symm.trans hz)
        exact Bool.eq_false_iff.2 hb
  · rw [if_neg h2] at hy ⊢
    obtain rfl := Option.some.inj (hu.symm.trans hy)
    refine ⟨by omega, fun c z c0 cn ce hz => ?_⟩
    obtain rfl : c = 2 * i + 1 := by omega
    obtain rfl := Option.some.inj (hu.symm.trans hz)
    exact le_refl _
/-- One step down from a place where anything may stand. -/
theorem mid_swap {L : List It} {n i k : Nat} {x y : It} (hn : n ≤ L.length) (hki : (k - 1) / 2 = i) (hk0 : 0 < k) (hkn : k < n) (h : Mid L n i) (hx : L[i]? = some x) (hy : L[k]? = some y) (hl : ∀ c z, 0 < c → c < n → (c - 1) / 2 = i → L[c]? = some z → le y z) (hb : aheadB y x = true) :
    DnEx (swapL L i k x y) n k := by
  obtain ⟨h1, h2⟩ := h
  refine ⟨?_, ?_⟩
  · intro c u v c0 cn ci hu hv
    rw [swapL_at hx hy] at hu hv
    by_cases e1 : c = k
    · rw [if_pos e1] at hu
      rw [if_neg (by omega), if_pos (by rw [e1, hki])] at hv
      obtain rfl := Option.some.inj hu
      obtain rfl := Option.some.inj hv
      exact le_of_lt hb
    · rw [if_neg e1] at hu
      rw [if_neg ci] at hv
      by_cases e2 : c = i
      · rw [if_pos e2] at hu
        rw [if_neg (by omega)] at hv
        obtain rfl := Option.some.inj hu
        subst e2
        exact h2 k y v hk0 hkn hki c0 hy hv
      · rw [if_neg e2] at hu
        by_cases e3 : (c - 1) / 2 = i
        · rw [if_pos e3] at hv
          obtain rfl := Option.some.inj hv
          exact hl c u c0 cn e3 hu
        · rw [if_neg e3] at hv
          exact h1 c u v c0 cn e2 e3 hu hv
  · intro c u v c0 cn e2 hp hu hv
    rw [swapL_at hx hy] at hu hv
    rw [if_neg (by omega), if_pos hki] at hv
    rw [if_neg (by omega), if_neg (by omega)] at hu
    obtain rfl := Option.some.inj hv
    exact h1 c u y c0 cn (by omega) (by omega) hu (by rw [e2]; exact hy)
theorem DnEx.mid {L : List It} {n i : Nat} (h : DnEx L n i) : Mid L n i := ⟨fun c x y c0 cn _ e => h.1 c x y c0 cn e, h.2⟩
theorem down_heap : ∀ (f : Nat) (L : List It) (n i : Nat), n ≤ i + f → n ≤ L.length → DnEx L n i → HeapN (downL f L n i).1 n
  | 0, L, n, i, hf, hn, h => by
    intro c x y c0 cn hx hy
    exact h.1 c x y c0 cn (by omega) hx hy
  | f + 1, L, n, i, hf, hn, h => by
    rw [downL]
    by_cases h0 : n ≤ 2 * i + 1
    · rw [if_pos h0]
      intro c x y c0 cn hx hy
      exact h.1 c x y c0 cn (by omega) hx hy
    · rw [if_neg h0]
      have hk := kidL_lt (L := L) (n := n) (i := i) (by omega)
      obtain ⟨y, hy⟩ := getLt (L := L) (i := kidL L n i) (by omega)
      obtain ⟨x, hx⟩ := getLt (L := L) (i := i) (by omega)
      obtain ⟨k1, k2⟩ := kid_least hn (by omega) hy
      rw [hy, hx]
      dsimp only
      by_cases hb : aheadB y x = true
      · rw [if_pos hb]
        exact down_heap f _ n _ (by omega) (by rw [swapL_len]; exact hn) (mid_swap hn k1 (by omega) hk.2 h.mid hx hy k2 hb)
      · rw [if_neg hb]
        intro c u v c0 cn hu hv
        by_cases e : (c - 1) / 2 = i
        · have := k2 c u c0 cn e hu
          rw [e] at hv
          obtain rfl := Option.some.inj (hx.symm.trans hv)
          exact le_trans (Bool.eq_false_iff.2 hb) this
        · exact h.1 c u v c0 cn e hu hv
theorem down_ge : ∀ (f : Nat) (L : List It) (n i : Nat), i ≤ (downL f L n i).2
  | 0, L, n, i => Nat.le_refl _
  | f + 1, L, n, i => by
    rw [downL]
    split
    · exact Nat.le_refl _
    · have hk := kidL_lt (L := L) (n := n) (i := i) (by omega)
      split
      · split
        · exact Nat.le_trans (Nat.le_of_lt hk.1) (down_ge f _ _ _)
        · exact Nat.le_refl _
      · exact Nat.le_refl _
/-- Down from a place where anything may stand: it moved, and all is in order; or it did not, and is for up. -/
theorem down_mid (f : Nat) (L : List It) (n i : Nat) (hf : n ≤ i + f) (hi : i < n) (hn : n ≤ L.length) (h : Mid L n i) :
    (i < (downL f L n i).2 ∧ HeapN (downL f L n i).1 n) ∨ ((downL f L n i).2 = i ∧ (downL f L n i).1 = L ∧ UpEx L n i) := by
  obtain ⟨f, rfl⟩ : ∃ g, f = g + 1 := ⟨f - 1, by omega⟩
  rw [downL]
  by_cases h0 : n ≤ 2 * i + 1
  · rw [if_pos h0]
    refine .inr ⟨rfl, rfl, fun c x y c0 cn ci hx hy => h.1 c x y c0 cn ci (by omega) hx hy, h.2⟩
  · rw [if_neg h0]
    have hk := kidL_lt (L := L) (n := n) (i := i) (by omega)
    obtain ⟨y, hy⟩ := getLt (L := L) (i := kidL L n i) (by omega)
    obtain ⟨x, hx⟩ := getLt (L := L) (i := i) (by omega)
    obtain ⟨k1, k2⟩ := kid_least hn (by omega) hy
    rw [hy, hx]
    dsimp only
    by_cases hb : aheadB y x = true
    · rw [if_pos hb]
      exact .inl ⟨Nat.lt_of_lt_of_le hk.1 (down_ge _ _ _ _), down_heap f _ n _ (by omega) (by rw [swapL_len]; exact hn) (mid_swap hn k1 (by omega) hk.2 h hx hy k2 hb)⟩
    · rw [if_neg hb]
      refine .inr ⟨rfl, rfl, fun c u v c0 cn ci hu hv => ?_, h.2⟩
      by_cases e : (c - 1) / 2 = i
      · have := k2 c u c0 cn e hu
        rw [e] at hv
        obtain rfl := Option.some.inj (hx.symm.trans hv)
        exact le_trans (Bool.eq_false_iff.2 hb) this
      · exact h.1 c u v c0 cn ci e hu hv
theorem down_above : ∀ (f : Nat) (L : List It) (n i j : Nat), n ≤ j → i < n → (downL f L n i).1[j]? = L[j]?
  | 0, L, n, i, j, _, _ => rfl
  | f + 1, L, n, i, j, hj, hi => by
    rw [downL]
    split
    · rfl
    · have hk := kidL_lt (L := L) (n := n) (i := i) (by omega)
      split
      · rename_i y x hy hx
        split
        · rw [down_above f _ n _ j hj hk.2, swapL_at hx hy, if_neg (by omega), if_neg (by omega)]
        · rfl
      · rfl
theorem heap_first {L : List It} {m : It} (h : HeapN L L.length) (hm : L[0]? = some m) : ∀ (i : Nat) (x : It), L[i]? = some x → le m x
  | i, x, hx => by
    by_cases hi : i = 0
    · subst hi
      obtain rfl := Option.some.inj (hm.symm.trans hx)
      exact le_refl _
    · have hil := (List.getElem?_eq_some_iff.1 hx).1
      obtain ⟨y, hy⟩ := getLt (L := L) (i := (i - 1) / 2) (by omega)
      exact le_trans (heap_first h hm ((i - 1) / 2) y hy) (h i x y (by omega) hil hx hy)
termination_by i => i
decreasing_by omega
theorem push_heap {L : List It} (h : HeapN L L.length) (x : It) : HeapN (pushL L x) (pushL L x).length ∧ (pushL L x).Perm (x :: L) := by
  unfold pushL
  refine ⟨?_, (up_perm _ _ _).trans List.perm_append_comm⟩
  rw [upL_len]
  refine up_heap _ _ _ _ (by omega) (by simp) (Nat.le_refl _) ⟨?_, ?_⟩
  · intro c u v c0 cn ce hu hv
    simp only [List.length_append, List.length_singleton] at cn
    rw [List.getElem?_append_left (by omega)] at hu hv
    exact h c u v c0 (by omega) hu hv
  · intro c u v c0 cn ce hp hu hv
    simp only [List.length_append, List.length_singleton] at cn
    omega
theorem pop_heap {L : List It} (h : HeapN L L.length) {m : It} (hm : L[0]? = some m) :
    HeapN ((popM L).take (L.length - 1)) ((popM L).take (L.length - 1)).length ∧ (m :: (popM L).take (L.length - 1)).Perm L := by
  have hpos := (List.getElem?_eq_some_iff.1 hm).1
  obtain ⟨n, hn⟩ : ∃ n, n = L.length - 1 := ⟨_, rfl⟩
  obtain ⟨y, hy⟩ := getLt (L := L) (i := n) (by omega)
  have hgx : L.getD 0 (0, 0) = m := by rw [List.getD_eq_getElem?_getD, hm]; rfl
  have hgy : L.getD n (0, 0) = y := by rw [List.getD_eq_getElem?_getD, hy]; rfl
  have hlen := popM_len L
  have hpm : popM L = (downL n (swapL L 0 n m y) n 0).1 := by rw [popM_eq, ← hn, hgx, hgy]
  have hlast : (popM L)[n]? = some m := by
    by_cases h0 : 0 < n
    · rw [hpm, down_above _ _ _ _ _ (Nat.le_refl _) h0, swapL_at hm hy, if_pos rfl]
    · obtain rfl : n = 0 := by omega
      rw [hpm]
      show (swapL L 0 0 m y)[0]? = some m
      rw [swapL_at hm hy, if_pos rfl]
  have hsplit : popM L = (popM L).take n ++ [m] := by
    have h1 := List.take_add_one (l := popM L) (i := n)
    rw [hlast, List.take_of_length_le (by omega)] at h1
    exact h1
  rw [← hn]
  have htl : ((popM L).take n).length = n := by rw [List.length_take]; omega
  refine ⟨?_, ?_⟩
  · rw [htl]
    have hh : HeapN (popM L) n := by
      rw [hpm]
      refine down_heap n _ n 0 (by omega) (by rw [swapL_len]; omega) ⟨?_, fun _ _ _ _ _ _ h => absurd h (Nat.not_lt_zero _)⟩
      intro c u v c0 cn ce hu hv
      rw [swapL_at hm hy, if_neg (by omega), if_neg (by omega)] at hu hv
      exact h c u v c0 (by omega) hu hv
    intro c u v c0 cn hu hv
    rw [List.getElem?_take, if_pos (by omega)] at hu hv
    exact hh c u v c0 cn hu hv
  · have h1 : (popM L).Perm L := by rw [hpm]; exact (down_perm _ _ _ _).trans (swapL_perm hm hy)
    refine List.Perm.trans ?_ h1
    refine (List.perm_append_comm (l₁ := [m]) (l₂ := (popM L).take n)).trans ?_
    rw [← hsplit]
end Go.Proofs.Ytoklhhcjcecbbaa.M
