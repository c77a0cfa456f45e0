/- Package census: what one is, and what its inner functions do to it. Conditions: counters below 2^62. -/
import Derived.Test.YtclippikdfcgkaaMx
import Derived.Test.YtclippikdfcgkaaMc
namespace Go.Proofs.Ytclippikdfcgkaa.M
open Go.RowKit Go.Proofs.YtclippikdfcgkaaW.PrintWords Go.Proofs.YtclippikdfcgkaaW.PrintLast Go.Proofs.YtclippikdfcgkaaW.PrintMore
attribute [local go_sem] max2_int max_two
set_option linter.unusedVariables false
set_option linter.unusedSimpArgs false

theorem more_calls (k : Int) (w : World) : Calls Try.prog 132 #[.int .i64 k] w fun e w' => e = .returned (.int .i64 (moreK k)) ∧ Bw w w' := by
  have HB := Aside0.mk (Bw.refl w)
  have leaf : ∀ c : Int, k = c → (c = 1 ∨ c = 9 ∨ c = 4 ∨ c = 5 ∨ c = 6 ∨ c = 8 ∨ c = 11) → Calls Try.prog 132 #[.int .i64 k] w fun e w' => e = .returned (.int .i64 (moreK k)) ∧ Bw w w' := by
    intro c hk hc
    subst hk
    rcases hc with rfl | rfl | rfl | rfl | rfl | rfl | rfl <;> (go_enter Try.func132, Try.ntmps132; go_wp2_with fail; go_ret; exact ⟨rfl, HB.out⟩)
  by_cases h1 : k = 1
  · exact leaf 1 h1 (by simp)
  by_cases h9 : k = 9
  · exact leaf 9 h9 (by simp)
  by_cases h4 : k = 4
  · exact leaf 4 h4 (by simp)
  by_cases h5 : k = 5
  · exact leaf 5 h5 (by simp)
  by_cases h6 : k = 6
  · exact leaf 6 h6 (by simp)
  by_cases h8 : k = 8
  · exact leaf 8 h8 (by simp)
  by_cases h11 : k = 11
  · exact leaf 11 h11 (by simp)
  have HM := Aside0.mk (show moreK k = 0 by unfold moreK; rw [if_neg (by omega), if_neg (by omega)])
  have e1 : (k == 1) = false := by simpa using h1
  have e9 : (k == 9) = false := by simpa using h9
  have e4 : (k == 4) = false := by simpa using h4
  have e5 : (k == 5) = false := by simpa using h5
  have e6 : (k == 6) = false := by simpa using h6
  have e8 : (k == 8) = false := by simpa using h8
  have e11 : (k == 11) = false := by simpa using h11
  clear leaf h1 h9 h4 h5 h6 h8 h11
  go_enter Try.func132, Try.ntmps132
  go_wp2_with fail
  go_ret
  exact ⟨ret_int HM.out.symm, HB.out⟩

def cenC (fK : Int → Int) (vg vp : Value) (most now : Int) : Array Value := (tabV 12 fK ++ [vg, vp, .int .i64 most, .int .i64 now]).toArray
/-- A goroutine's counts: the starts, the returns, the spawns. -/
def fG (es : List Ev) (j : Int) : Int := cO es (if j % 3 = 0 then 1 else if j % 3 = 1 then 9 else 2) (j / 3)
structure IsCen (w : World) (base b g1 c1 g2 c2 n m : Nat) (fK fg fP : Int → Int) (most now : Int) : Prop where
  le : base ≤ b
  blk : Blk w b (cenC fK (.slice (some ⟨g1, 0, none⟩) n c1) (.slice (some ⟨g2, 0, none⟩) m c2) most now) 31
  gs : w.ownsRow base 141 3 (.slice (some ⟨g1, 0, none⟩) n c1) n (tabV (n * 3) fg)
  ps : w.ownsRow base 3 1 (.slice (some ⟨g2, 0, none⟩) m c2) m (tabV m fP)
def CenF (b g1 g2 : Nat) : Nat → Prop := fun i => i = b ∨ i = g1 ∨ i = g2
section
variable {w w1 : World} {base b g1 c1 g2 c2 n m : Nat} {fK fg fP : Int → Int} {most now : Int}
theorem cenC_kind (fK : Int → Int) (vg vp : Value) (most now : Int) (k : Nat) (hk : k < 12) : (cenC fK vg vp most now)[k]? = some (.int .i64 (fK k)) := by
  unfold cenC
  rw [List.getElem?_toArray, List.getElem?_append_left (by rw [tabV_len]; exact hk)]
  exact tabV_get 12 fK k hk
theorem cenC_tail (fK : Int → Int) (vg vp : Value) (most now : Int) (k : Nat) : (cenC fK vg vp most now)[12 + k]? = [vg, vp, .int .i64 most, .int .i64 now][k]? := by
  unfold cenC
  rw [List.getElem?_toArray, List.getElem?_append_right (by rw [tabV_len]; omega), tabV_len]
  congr 1
  omega
theorem IsCen.bw (h : IsCen w base b g1 c1 g2 c2 n m fK fg fP most now) (hb : Bw w w1) : IsCen w1 base b g1 c1 g2 c2 n m fK fg fP most now :=
  ⟨h.le, h.blk.bw hb, pw_own_below h.gs hb, pw_own_below h.ps hb⟩
theorem IsCen.cg (h : IsCen w base b g1 c1 g2 c2 n m fK fg fP most now) : w.cell? ⟨b, 12, none⟩ = some (.slice (some ⟨g1, 0, none⟩) n c1) := h.blk.cell 12 _ (cenC_tail _ _ _ _ _ 0)
theorem IsCen.cp (h : IsCen w base b g1 c1 g2 c2 n m fK fg fP most now) : w.cell? ⟨b, 13, none⟩ = some (.slice (some ⟨g2, 0, none⟩) m c2) := h.blk.cell 13 _ (cenC_tail _ _ _ _ _ 1)
theorem IsCen.cm (h : IsCen w base b g1 c1 g2 c2 n m fK fg fP most now) : w.cell? ⟨b, 14, none⟩ = some (.int .i64 most) := h.blk.cell 14 _ (cenC_tail _ _ _ _ _ 2)
theorem IsCen.cn (h : IsCen w base b g1 c1 g2 c2 n m fK fg fP most now) : w.cell? ⟨b, 15, none⟩ = some (.int .i64 now) := h.blk.cell 15 _ (cenC_tail _ _ _ _ _ 3)

theorem row_none (g : Int) (h : IsCen w base b g1 c1 g2 c2 n m fK fg fP most now) (hg : g < 0 ∨ (n : Int) ≤ g) : Calls Try.prog 131 #[.pointer (some ⟨b, 0, none⟩), .int .i64 g] w fun e w' => e = .returned (.pointer none) ∧ Bw w w' := by
  have HB := Aside0.mk (Bw.refl w)
  have hc := h.cg
  clear h
  by_cases h0 : g < 0
  · have d1 : decide (g < 0) = true := by simpa using h0
    clear h0 hg
    go_enter Try.func131, Try.ntmps131
    go_wp2_with fail
    go_ret
    exact ⟨rfl, HB.out⟩
  · have d1 : decide (g < 0) = false := by simpa using h0
    have d2 : decide ((n : Int) ≤ g) = true := by simp; omega
    clear h0 hg
    go_enter Try.func131, Try.ntmps131
    go_wp2_with fail
    go_ret
    exact ⟨rfl, HB.out⟩
theorem row_some (g : Nat) (h : IsCen w base b g1 c1 g2 c2 n m fK fg fP most now) (hg : g < n) : Calls Try.prog 131 #[.pointer (some ⟨b, 0, none⟩), .int .i64 (g : Int)] w fun e w' => e = .returned (.pointer (some ⟨g1, g * 3, none⟩)) ∧ Bw w w' := by
  have HB := Aside0.mk (Bw.refl w)
  have hc := h.cg
  have d2 : decide ((n : Int) ≤ (g : Int)) = false := by simp; omega
  have d3 : decide (n ≤ g) = false := by simp; omega
  clear h
  go_enter Try.func131, Try.ntmps131
  go_wp2_with fail
  go_ret
  exact ⟨rfl, HB.out⟩
end
end Go.Proofs.Ytclippikdfcgkaa.M
