/- Events counted (package census): the counts, and how one more event changes them. No condition. -/
import Derived.Test.YtclippikdfcgkaaMne
namespace Go.Proofs.Ytclippikdfcgkaa.M
open Go.RowKit Go.Proofs.YtclippikdfcgkaaW.PrintWords Go.Proofs.YtclippikdfcgkaaW.PrintLast Go.Proofs.YtclippikdfcgkaaW.PrintMore
set_option linter.unusedVariables false
set_option linter.unusedSimpArgs false

structure Ev where
  kind : Int
  g : Int
  other : Int
  thread : Int
  proc : Int
abbrev encV : Ev → List Value := fun e => [.int .i64 e.kind, .int .i64 e.g, .int .i64 e.other, .int .i64 e.thread, .int .i64 e.proc]
def normK (k : Int) : Int := if k < 1 ∨ 12 ≤ k then 0 else k
def cB (es : List Ev) (p : Ev → Bool) : Int := ((es.filter p).length : Int)
def isK (k : Int) : Ev → Bool := fun e => normK e.kind == k
def isO (k g : Int) : Ev → Bool := fun e => e.kind == k && (if k = 2 then e.other == g else e.g == g)
def isP (p : Int) : Ev → Bool := fun e => (e.kind == 1 || e.kind == 9) && e.proc == p
abbrev cK (es : List Ev) (k : Int) : Int := cB es (isK k)
abbrev cO (es : List Ev) (k g : Int) : Int := cB es (isO k g)
abbrev cP (es : List Ev) (p : Int) : Int := cB es (isP p)
def cNow (es : List Ev) : Int := cK es 1 + cK es 9 - (cK es 4 + cK es 5 + cK es 6 + cK es 8 + cK es 11)
def maxI (a b : Int) : Int := if a < b then b else a
def cMost (es : List Ev) : Int := (List.range (es.length + 1)).foldl (fun m n => maxI m (cNow (es.take n))) 0
theorem cB_range (es : List Ev) (p : Ev → Bool) : 0 ≤ cB es p ∧ cB es p ≤ es.length := ⟨by unfold cB; omega, by have := List.length_filter_le p es; unfold cB; omega⟩
theorem cB_snoc (es : List Ev) (e : Ev) (p : Ev → Bool) : cB (es ++ [e]) p = cB es p + if p e = true then 1 else 0 := by
  unfold cB
  rw [List.filter_append, List.length_append, List.filter_cons]
  split <;> simp
theorem cB_append (es fs : List Ev) (p : Ev → Bool) : cB (es ++ fs) p = cB es p + cB fs p := by
  unfold cB
  rw [List.filter_append, List.length_append]
  push_cast
  rfl
theorem cB_nil (p : Ev → Bool) : cB [] p = 0 := rfl
/-- How many more run behind an event of a kind (normK's). -/
def moreK (k : Int) : Int := if k = 1 ∨ k = 9 then 1 else if k = 4 ∨ k = 5 ∨ k = 6 ∨ k = 8 ∨ k = 11 then -1 else 0
theorem isK_eq (k : Int) (e : Ev) : (if isK k e = true then (1 : Int) else 0) = if normK e.kind = k then 1 else 0 := by
  unfold isK
  by_cases h : normK e.kind = k <;> simp [h]
theorem cNow_snoc (es : List Ev) (e : Ev) : cNow (es ++ [e]) = cNow es + moreK (normK e.kind) := by
  unfold cNow cK
  rw [cB_snoc, cB_snoc, cB_snoc, cB_snoc, cB_snoc, cB_snoc, cB_snoc]
  rw [isK_eq, isK_eq, isK_eq, isK_eq, isK_eq, isK_eq, isK_eq]
  unfold moreK
  by_cases h1 : normK e.kind = 1
  · simp [h1]; omega
  · by_cases h9 : normK e.kind = 9
    · simp [h9]; omega
    · by_cases h4 : normK e.kind = 4
      · simp [h4]; omega
      · by_cases h5 : normK e.kind = 5
        · simp [h5]; omega
        · by_cases h6 : normK e.kind = 6
          · simp [h6]; omega
          · by_cases h8 : normK e.kind = 8
            · simp [h8]; omega
            · by_cases h11 : normK e.kind = 11
              · simp [h11]; omega
              · simp [h1, h9, h4, h5, h6, h8, h11]
theorem cNow_nil : cNow [] = 0 := rfl
theorem cMost_nil : cMost [] = 0 := rfl
theorem cMost_snoc (es : List Ev) (e : Ev) : cMost (es ++ [e]) = maxI (cMost es) (cNow (es ++ [e])) := by
  unfold cMost
  rw [List.length_append, List.length_singleton, List.range_succ, List.foldl_append]
  simp only [List.foldl_cons, List.foldl_nil]
  rw [List.take_of_length_le (by simp)]
  congr 1
  have : ∀ (l : List Nat) (m : Int), (∀ n ∈ l, n ≤ es.length) → l.foldl (fun m n => maxI m (cNow ((es ++ [e]).take n))) m = l.foldl (fun m n => maxI m (cNow (es.take n))) m := by
    intro l
    induction l with
    | nil => intro m _; rfl
    | cons n l ih =>
      intro m hm
      simp only [List.foldl_cons]
      rw [List.take_append_of_le_length (hm n (by simp))]
      exact ih _ fun k hk => hm k (List.mem_cons_of_mem _ hk)
  refine this _ _ fun n hn => ?_
  have := List.mem_range.1 hn
  omega
theorem cNow_range (es : List Ev) : -(5 * (es.length : Int)) ≤ cNow es ∧ cNow es ≤ 2 * es.length := by
  have h := fun k => cB_range es (isK k)
  have h1 := h 1; have h2 := h 9; have h3 := h 4; have h4 := h 5; have h5 := h 6; have h6 := h 8; have h7 := h 11
  unfold cNow cK
  omega
theorem cMost_range (es : List Ev) : 0 ≤ cMost es ∧ cMost es ≤ 2 * es.length := by
  refine snoc_ind (P := fun es => 0 ≤ cMost es ∧ cMost es ≤ 2 * es.length) (by simp [cMost_nil]) ?_ es
  intro es e ih
  rw [cMost_snoc]
  have := cNow_range (es ++ [e])
  rw [List.length_append, List.length_singleton] at this ⊢
  unfold maxI
  split <;> omega

/-! ### Numbers that are told by a function, and one of them changed -/
def tab (n : Nat) (f : Int → Int) : List Int := (List.range n).map fun i : Nat => f (i : Int)
theorem tab_len (n : Nat) (f : Int → Int) : (tab n f).length = n := by simp [tab]
theorem tab_get (n : Nat) (f : Int → Int) (i : Nat) (h : i < n) : (tab n f)[i]? = some (f i) := by simp [tab, h]
theorem tab_set (n : Nat) (f f' : Int → Int) (i : Nat) (h : ∀ j : Nat, j < n → j ≠ i → f' j = f j) : tab n f' = (tab n f).set i (f' i) := by
  apply List.ext_getElem?
  intro j
  rw [List.getElem?_set]
  rcases Nat.lt_or_ge j n with hj | hj
  · rw [tab_get _ _ _ hj]
    by_cases hji : i = j
    · subst hji
      rw [if_pos rfl, if_pos (by rw [tab_len]; exact hj)]
    · rw [if_neg hji, tab_get _ _ _ hj, h j hj (fun e => hji e.symm)]
  · rw [List.getElem?_eq_none (by rw [tab_len]; exact hj), List.getElem?_eq_none (l := tab n f) (by rw [tab_len]; exact hj)]
    split
    · split
      · rename_i h1; rw [tab_len] at h1; omega
      · rfl
    · rfl
theorem tab_same (n : Nat) (f f' : Int → Int) (h : ∀ j : Nat, j < n → f' j = f j) : tab n f' = tab n f := by
  unfold tab
  apply List.map_congr_left
  intro j hj
  exact h j (List.mem_range.1 hj)

theorem own_cellj {w : World} {base g cap n : Nat} {e : TypeId} {sz : Nat} {xs : List Value} (h : w.ownsRow base e sz (.slice (some ⟨g, 0, none⟩) n cap) n xs) (j : Nat) (u : Value) (hj : xs[j]? = some u) : w.cell? ⟨g, j, none⟩ = some u := by
  have := h.cells (g := g) rfl j u hj
  have hadd : (⟨g, 0, none⟩ : Addr).add j = ⟨g, j, none⟩ := by unfold Addr.add; split <;> simp_all
  rw [hadd] at this
  exact this
theorem own_setj {w : World} {base g cap n : Nat} {e : TypeId} {sz : Nat} {xs : List Value} (h : w.ownsRow base e sz (.slice (some ⟨g, 0, none⟩) n cap) n xs) (j : Nat) (u : Value) (hj : j < n * sz) : (w.setCell ⟨g, j, none⟩ u).ownsRow base e sz (.slice (some ⟨g, 0, none⟩) n cap) n (xs.set j u) := by
  refine ⟨by rw [List.length_set]; exact h.1, ?_⟩
  rcases h.2 with ⟨hv, _⟩ | ⟨g', cap', cur, hv, hb, hh, hn, hc, hs, ht⟩
  · cases hv
  · injection hv with h1 h2 h3
    injection h1 with h1
    injection h1 with h1
    subst h1
    subst h3
    refine .inr ⟨g, cap, cur.setIfInBounds j u, rfl, hb, ?_, hn, hc, by simpa using hs, ?_⟩
    · simp only [World.setCell, Array.getElem?_modify, if_pos, hh, Option.map_some]
      simp
    · rw [Array.toList_setIfInBounds, ← ht, List.take_set]
/-- Numbers' cells. -/
def tabV (n : Nat) (f : Int → Int) : List Value := nums .i64 (tab n f)
theorem tabV_len (n : Nat) (f : Int → Int) : (tabV n f).length = n := by simp [tabV, nums, tab_len]
theorem tabV_get (n : Nat) (f : Int → Int) (i : Nat) (h : i < n) : (tabV n f)[i]? = some (.int .i64 (f i)) := by simp [tabV, nums, tab_get n f i h]
theorem tabV_set (n : Nat) (f f' : Int → Int) (i : Nat) (h : ∀ j : Nat, j < n → j ≠ i → f' j = f j) : tabV n f' = (tabV n f).set i (.int .i64 (f' i)) := by
  unfold tabV nums
  rw [tab_set n f f' i h, List.map_set]
theorem tabV_same (n : Nat) (f f' : Int → Int) (h : ∀ j : Nat, j < n → f' j = f j) : tabV n f' = tabV n f := by
  unfold tabV
  rw [tab_same n f f' h]
end Go.Proofs.Ytclippikdfcgkaa.M
