/- Windows of entries: the plain law. No program. -/
import Derived.Test.YtkmfbafgbaapiaaMq4
namespace Go.Proofs.Ytkmfbafgbaapiaa.M
open Go.RowKit Go.Maps Go.Proofs.YtkmfbafgbaapiaaW.PrintWords
set_option linter.unusedVariables false
set_option linter.unusedSimpArgs false
def gapAt (h : Nat → Bool) : Nat → Nat
  | 0 => 0
  | k + 1 => if h k = true then 0 else gapAt h k + 1
def maxAt (h : Nat → Bool) : Nat → Nat
  | 0 => 0
  | k + 1 => max (maxAt h k) (gapAt h (k + 1))
theorem gap_le (h : Nat → Bool) : ∀ k, gapAt h k ≤ k
  | 0 => Nat.le_refl _
  | k + 1 => by
    have := gap_le h k
    unfold gapAt
    split <;> omega
theorem gap_none (h : Nat → Bool) : ∀ k j, k - gapAt h k ≤ j → j < k → h j = false
  | 0, j, _, h2 => by omega
  | k + 1, j, h1, h2 => by
    unfold gapAt at h1
    split at h1
    · omega
    · rename_i hk
      by_cases e : j = k
      · subst e; simpa using hk
      · exact gap_none h k j (by omega) (by omega)
theorem gap_hit (h : Nat → Bool) : ∀ k, gapAt h k < k → h (k - gapAt h k - 1) = true
  | 0, h1 => by omega
  | k + 1, h1 => by
    by_cases hk : h k = true
    · have e : gapAt h (k + 1) = 0 := by unfold gapAt; rw [if_pos hk]
      rw [e]
      simpa using hk
    · have e : gapAt h (k + 1) = gapAt h k + 1 := by conv => lhs; unfold gapAt; rw [if_neg hk]
      rw [e] at h1 ⊢
      have := gap_hit h k (by omega)
      rwa [show k + 1 - (gapAt h k + 1) - 1 = k - gapAt h k - 1 by omega]
theorem max_ge (h : Nat → Bool) : ∀ k j, j ≤ k → gapAt h j ≤ maxAt h k
  | 0, j, hj => by
    obtain rfl : j = 0 := by omega
    exact Nat.le_refl _
  | k + 1, j, hj => by
    show _ ≤ max _ _
    by_cases e : j = k + 1
    · subst e; omega
    · have := max_ge h k j (by omega); omega
theorem max_at (h : Nat → Bool) : ∀ k, ∃ j, j ≤ k ∧ gapAt h j = maxAt h k
  | 0 => ⟨0, Nat.le_refl _, rfl⟩
  | k + 1 => by
    obtain ⟨j, hj, e⟩ := max_at h k
    by_cases hc : gapAt h (k + 1) ≤ maxAt h k
    · exact ⟨j, by omega, by rw [e]; show _ = max _ _; omega⟩
    · exact ⟨k + 1, Nat.le_refl _, by show _ = max _ _; omega⟩
theorem max_le (h : Nat → Bool) (k : Nat) : maxAt h k ≤ k := by
  obtain ⟨j, hj, e⟩ := max_at h k
  have := gap_le h j
  omega
theorem win_hit (h : Nat → Bool) (n i w : Nat) (hw : maxAt h n < w) (hi : i + w ≤ n) : ∃ j, i ≤ j ∧ j < i + w ∧ h j = true := by
  have h1 := max_ge h n (i + w) hi
  have h2 := gap_hit h (i + w) (by omega)
  exact ⟨i + w - gapAt h (i + w) - 1, by omega, by omega, h2⟩
theorem win_miss (h : Nat → Bool) (n w : Nat) (hw : w ≤ maxAt h n) : ∃ i, i + w ≤ n ∧ ∀ j, i ≤ j → j < i + w → h j = false := by
  obtain ⟨k, hk, e⟩ := max_at h n
  have hg := gap_le h k
  exact ⟨k - w, by omega, fun j h1 h2 => gap_none h k j (by omega) (by omega)⟩
/-- Where an entry stands. -/
def hit (l : List En) (p : En) (j : Nat) : Bool := match l[j]? with | some x => plainE x == p | none => false
theorem hit_some {l : List En} {p : En} {j : Nat} {x : En} (h : l[j]? = some x) : hit l p j = (plainE x == p) := by unfold hit; rw [h]
theorem sub_any (l : List En) (p : En) (i w : Nat) : ((l.drop i).take w).any (fun e => plainE e == p) = true ↔ ∃ j, i ≤ j ∧ j < i + w ∧ hit l p j = true := by
  rw [List.any_eq_true]
  constructor
  · rintro ⟨x, hx, he⟩
    obtain ⟨j, hj⟩ := List.getElem?_of_mem hx
    rw [List.getElem?_take] at hj
    split at hj
    · rename_i hlt
      rw [List.getElem?_drop] at hj
      exact ⟨i + j, by omega, by omega, by rw [hit_some hj]; exact he⟩
    · cases hj
  · rintro ⟨j, h1, h2, h3⟩
    unfold hit at h3
    split at h3
    · rename_i x hx
      refine ⟨x, ?_, h3⟩
      refine List.mem_of_getElem? (i := j - i) ?_
      rw [List.getElem?_take, if_pos (by omega), List.getElem?_drop, show i + (j - i) = j by omega]
      exact hx
    · cases h3
def sub (l : List En) (i w : Nat) : List En := (l.drop i).take w
theorem right_sub (T : Nat) (hT : T ≤ 256) (l : List En) (i w : Nat) : rightL T (sub l i w) = true ↔ ∀ p, wfN p → wantB T p = true → ∃ j, i ≤ j ∧ j < i + w ∧ hit l p j = true := by
  rw [rightL_iff T hT]
  constructor
  · intro h p hp hw
    have := h p hp
    rw [hw] at this
    exact (sub_any l p i w).1 (by simpa [sub] using this)
  · intro h p hp
    cases hw : wantB T p
    · rfl
    · have := (sub_any l p i w).2 (h p hp hw)
      unfold sub
      rw [this]
      rfl
def goodW (T : Nat) (l : List En) (w : Nat) : Prop := ∀ i, i + w ≤ l.length → rightL T (sub l i w) = true
def IsWin (T : Nat) (l : List En) (x : Nat) : Prop := (1 ≤ x ∧ x ≤ l.length ∧ goodW T l x ∧ ∀ w, 1 ≤ w → w < x → ¬ goodW T l w) ∨ (x = 0 ∧ ∀ w, 1 ≤ w → w ≤ l.length → ¬ goodW T l w)
theorem win_unique {T : Nat} {l : List En} {x y : Nat} (hx : IsWin T l x) (hy : IsWin T l y) : x = y := by
  rcases hx with ⟨a1, a2, a3, a4⟩ | ⟨a1, a2⟩ <;> rcases hy with ⟨b1, b2, b3, b4⟩ | ⟨b1, b2⟩
  · rcases Nat.lt_trichotomy x y with h | h | h
    · exact absurd a3 (b4 x a1 h)
    · exact h
    · exact absurd b3 (a4 y b1 h)
  · exact absurd a3 (b2 x a1 a2)
  · exact absurd b3 (a2 y b1 b2)
  · omega
theorem right_whole (T : Nat) (hT : T ≤ 256) (l : List En) : rightL T l = true ↔ ∀ p, wfN p → wantB T p = true → ∃ j, j < l.length ∧ hit l p j = true := by
  have := right_sub T hT l 0 l.length
  have e : sub l 0 l.length = l := by unfold sub; simp
  rw [e] at this
  rw [this]
  constructor
  · intro h p hp hw
    obtain ⟨j, _, h2, h3⟩ := h p hp hw
    exact ⟨j, by omega, h3⟩
  · intro h p hp hw
    obtain ⟨j, h2, h3⟩ := h p hp hw
    exact ⟨j, by omega, by omega, h3⟩
theorem win_not (T : Nat) (hT : T ≤ 256) (l : List En) (h : rightL T l = false) : IsWin T l 0 := by
  refine .inr ⟨rfl, fun w h1 h2 hg => ?_⟩
  have h3 := (right_sub T hT l 0 w).1 (hg 0 (by omega))
  have : rightL T l = true := (right_whole T hT l).2 fun p hp hw => by
    obtain ⟨j, _, h4, h5⟩ := h3 p hp hw
    exact ⟨j, by omega, h5⟩
  rw [h] at this
  cases this
/-- The longest stretch without some entry that is wanted. -/
def IsMax (T : Nat) (l : List En) (done : En → Prop) (M : Nat) : Prop := (∀ p, wfN p → wantB T p = true → done p → maxAt (hit l p) l.length ≤ M) ∧ (M = 0 ∨ ∃ p, wfN p ∧ wantB T p = true ∧ done p ∧ maxAt (hit l p) l.length = M)
theorem win_max (T : Nat) (hT : T ≤ 256) (l : List En) (h : rightL T l = true) (M : Nat) (hM : IsMax T l (fun _ => True) M) : IsWin T l (M + 1) := by
  have hall := (right_whole T hT l).1 h
  have hlt : M + 1 ≤ l.length := by
    have key : ∀ p, wfN p → wantB T p = true → maxAt (hit l p) l.length < l.length := fun p hp hw => by
      obtain ⟨j, h1, h2⟩ := hall p hp hw
      apply Classical.byContradiction
      intro hc
      obtain ⟨i, h3, h4⟩ := win_miss (hit l p) l.length l.length (by omega)
      have := h4 j (by omega) (by omega)
      rw [h2] at this
      cases this
    rcases hM.2 with e | ⟨p, hp, hw, _, e⟩
    · have := key (2, 0) ⟨show (Lit.int .i64 2).wf = true by decide, show (Lit.int .i64 0).wf = true by decide⟩ (by unfold wantB; simp)
      omega
    · have := key p hp hw
      omega
  refine .inl ⟨by omega, hlt, fun i hi => (right_sub T hT l i (M + 1)).2 fun p hp hw => ?_, fun w h1 h2 hg => ?_⟩
  · exact win_hit (hit l p) l.length i (M + 1) (by have := hM.1 p hp hw trivial; omega) hi
  · rcases hM.2 with e | ⟨p, hp, hw, _, e⟩
    · omega
    · obtain ⟨i, h3, h4⟩ := win_miss (hit l p) l.length w (by omega)
      obtain ⟨j, h5, h6, h7⟩ := (right_sub T hT l i w).1 (hg i h3) p hp hw
      rw [h4 j h5 h6] at h7
      cases h7
end Go.Proofs.Ytkmfbafgbaapiaa.M
