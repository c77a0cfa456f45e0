/- Agenda: Swap of a pile. Conditions: as in the text before. -/
import Derived.Test.YtoklhhcjcecbbaaGb
namespace Go.Proofs.Ytoklhhcjcecbbaa.M
open Go.RowKit Go.Maps Go.Proofs.YtoklhhcjcecbbaaW.PrintWords Go.Proofs.YtoklhhcjcecbbaaW.PrintLast Go.Proofs.YtoklhhcjcecbbaaW.PrintMore
set_option linter.unusedVariables false
set_option linter.unusedSimpArgs false
theorem entry_ig {w : World} {b n : Nat} {D : DataW Unit} (h : isMi w b n D) (hn : n < maxLen) (p : Int) (hp : (Lit.int .i64 p).wf = true) :
    ∃ (c st : Int) (w1 : World), (Instr.lookup 87 (.map (some b)) (.int .i64 p) false).run Try.prog w = .ok (.int .i64 c) w ∧
      (Instr.mapEntry 87 (.map (some b)) (.int .i64 p)).run Try.prog w = .ok (.tuple #[.int .i64 c, .int .i64 st]) w1 ∧
      (Instr.lookup 87 (.map (some b)) (.int .i64 p) false).run Try.prog w1 = .ok (.int .i64 c) w1 ∧
      ∀ v : Int, (Lit.int .i64 v).wf = true → ∃ w2, (Instr.entryStore 87 (.map (some b)) (.int .i64 st) (.int .i64 v)).run Try.prog w1 = .ok () w2 ∧ isMi w2 b (n + 1) (D.put (.int .i64 p) (.lit (.int .i64 v))) ∧ w.grownBy w2 (some b) := by
  obtain ⟨c, st, w1, _, h1, h2, h3, h4⟩ := entry_ii h hn p hp
  exact ⟨c, st, w1, h1, h2, h3, h4⟩
def swapL (L : List It) (i k : Nat) (x y : It) : List It := (L.set i y).set k x
section
variable {w w1 : World} {base b mb : Nat} {v : Value} {L : List It} {D : DataW Unit}
theorem own_itemset {g cap m i : Nat} {y x : It} {L : List It} (h : w.ownsRow base 30 2 (.slice (some ⟨g, 0, none⟩) m cap) m (L.flatMap encI)) (hx : L[i]? = some x) : ((w.setCell ⟨g, i * 2, none⟩ (.int .i64 y.1)).setCell ⟨g, i * 2 + 1, none⟩ (.int .i64 y.2)).ownsRow base 30 2 (.slice (some ⟨g, 0, none⟩) m cap) m ((L.set i y).flatMap encI) := by
  have hlt := (List.getElem?_eq_some_iff.1 hx).1
  have hml : m = L.length := by have := h.1; rw [flat_len (sz := 2) (fun _ => rfl)] at this; omega
  have h1 := own_setg h (i * 2) (.int .i64 y.1) (by omega)
  have h2 := own_setg h1 (i * 2 + 1) (.int .i64 y.2) (by omega)
  have e1 := flat_set (enc := encI) (sz := 2) (fun _ => rfl) L i x (y.1, x.2) hx 0 (.int .i64 y.1) (by omega) rfl
  have e2 := flat_set (enc := encI) (sz := 2) (fun _ => rfl) (L.set i (y.1, x.2)) i (y.1, x.2) y (by rw [List.getElem?_set_self hlt]) 1 (.int .i64 y.2) (by omega) rfl
  rw [Nat.add_zero] at e1
  rw [e1, e2, List.set_set] at h2
  exact h2
theorem wf_of_nat {i : Nat} (h : i ≤ 1000000) : (Lit.int .i64 (i : Int)).wf = true := by simp [Lit.wf, IntKind.min, IntKind.max, IntKind.signed, IntKind.bits]; omega
theorem lit_key (k : Int) : WideAt.IsKeyLit (.int .i64 k) := by first | exact trivial | simp [WideAt.IsKeyLit] | constructor
theorem swapL_at {L : List It} {i k : Nat} {x y : It} (hx : L[i]? = some x) (hy : L[k]? = some y) (j : Nat) : (swapL L i k x y)[j]? = if j = k then some x else if j = i then some y else L[j]? := by
  have hil := (List.getElem?_eq_some_iff.1 hx).1
  have hkl := (List.getElem?_eq_some_iff.1 hy).1
  unfold swapL
  rw [List.getElem?_set, List.getElem?_set]
  simp only [List.length_set]
  by_cases h1 : k = j
  · subst h1; simp [hkl]
  · rw [if_neg h1, if_neg (Ne.symm h1)]
    by_cases h2 : i = j
    · subst h2; simp [hil]
    · rw [if_neg h2, if_neg (Ne.symm h2)]
theorem swapL_perm {L : List It} {i k : Nat} {x y : It} (hx : L[i]? = some x) (hy : L[k]? = some y) : (swapL L i k x y).Perm L := by
  have hil := (List.getElem?_eq_some_iff.1 hx).1
  have hkl := (List.getElem?_eq_some_iff.1 hy).1
  refine List.perm_iff_count.2 fun z => ?_
  unfold swapL
  rw [List.count_set (by simpa using hkl), List.count_set hil, List.getElem_set]
  have e1 : L[i] = x := (List.getElem?_eq_some_iff.1 hx).2
  have e2 : L[k] = y := (List.getElem?_eq_some_iff.1 hy).2
  rw [e1, e2]
  have hcx : 0 < L.count x := List.count_pos_iff.2 (List.mem_of_getElem? hx)
  have hcy : 0 < L.count y := List.count_pos_iff.2 (List.mem_of_getElem? hy)
  by_cases hik : i = k
  · subst hik
    have : x = y := e1.symm.trans e2
    subst this
    simp
    split <;> simp_all <;> omega
  · rw [if_neg hik]
    by_cases hxz : x = z
    · by_cases hyz : y = z
      · subst hxz; subst hyz; simp; omega
      · subst hxz
        have : (y == x) = false := by simpa using hyz
        simp [this]
        omega
    · by_cases hyz : y = z
      · subst hyz
        have : (x == y) = false := by simpa using hxz
        simp [this]
      · have h1 : (x == z) = false := by simpa using hxz
        have h2 : (y == z) = false := by simpa using hyz
        simp [h1, h2]
theorem key_at {L : List It} (hnd : (L.map (·.2)).Nodup) {i j : Nat} {x y : It} (hx : L[i]? = some x) (hy : L[j]? = some y) (h : x.2 = y.2) : i = j := by
  have h1 : (L.map (·.2))[i]? = some x.2 := by rw [List.getElem?_map, hx]; rfl
  have h2 : (L.map (·.2))[j]? = some x.2 := by rw [List.getElem?_map, hy, h]; rfl
  obtain ⟨a1, a2⟩ := List.getElem?_eq_some_iff.1 h1
  obtain ⟨b1, b2⟩ := List.getElem?_eq_some_iff.1 h2
  rw [List.nodup_iff_pairwise_ne, List.pairwise_iff_getElem] at hnd
  rcases Nat.lt_trichotomy i j with h | h | h
  · exact absurd (a2.trans b2.symm) (hnd i j a1 b1 h)
  · exact h
  · exact absurd (b2.trans a2.symm) (hnd j i b1 a1 h)
theorem Pl.swap {D : DataW Unit} {L : List It} (hD : IsMap D) (h : Pl D L) (hnd : (L.map (·.2)).Nodup) {i k : Nat} {x y : It} (hx : L[i]? = some x) (hy : L[k]? = some y) (hik : i ≠ k) : Pl ((D.put (.int .i64 y.2) (.lit (.int .i64 (i : Int)))).put (.int .i64 x.2) (.lit (.int .i64 (k : Int)))) (swapL L i k x y) := by
  have hxy : x.2 ≠ y.2 := fun e => hik (key_at hnd hx hy e)
  refine ⟨fun j z hz => ?_, fun q hq => ?_⟩
  · rw [swapL_at hx hy] at hz
    by_cases h1 : j = k
    · rw [if_pos h1] at hz
      obtain rfl := Option.some.inj hz
      subst h1
      exact atKey_put_same (hD.put _ _) (lit_key _) _ _
    · rw [if_neg h1] at hz
      by_cases h2 : j = i
      · rw [if_pos h2] at hz
        obtain rfl := Option.some.inj hz
        subst h2
        rw [atKey_put_other (by simpa using Ne.symm hxy)]
        exact atKey_put_same hD (lit_key _) _ _
      · rw [if_neg h2] at hz
        have n1 : z.2 ≠ x.2 := fun e => h2 (key_at hnd hz hx e)
        have n2 : z.2 ≠ y.2 := fun e => h1 (key_at hnd hz hy e)
        rw [atKey_put_other (by simpa using n1), atKey_put_other (by simpa using n2)]
        exact h.at_ j z hz
  · have hany : (swapL L i k x y).any (fun z => z.2 == q) = L.any (fun z => z.2 == q) := by
      rw [Bool.eq_iff_iff, List.any_eq_true, List.any_eq_true]
      have hp := swapL_perm hx hy
      exact ⟨fun ⟨z, hz, hq⟩ => ⟨z, hp.mem_iff.1 hz, hq⟩, fun ⟨z, hz, hq⟩ => ⟨z, hp.mem_iff.2 hz, hq⟩⟩
    rw [hany, ← h.has_ q hq]
    by_cases h1 : q = x.2
    · subst h1
      rw [has_put_same (hD.put _ _) (lit_key _), h.has_ _ hq]
      symm
      rw [List.any_eq_true]
      exact ⟨x, List.mem_of_getElem? hx, by simp⟩
    · rw [has_put_other (by simpa using h1)]
      by_cases h2 : q = y.2
      · subst h2
        rw [has_put_same hD (lit_key _), h.has_ _ hq]
        symm
        rw [List.any_eq_true]
        exact ⟨y, List.mem_of_getElem? hy, by simp⟩
      · rw [has_put_other (by simpa using h2)]
set_option maxHeartbeats 2000000 in
set_option maxRecDepth 100000 in
theorem pSwap_ne (h : IsPile w base b mb v L D) (i k : Nat) (x y : It) (hx : L[i]? = some x) (hy : L[k]? = some y) (hik : i ≠ k) :
    Calls Try.prog 149 #[.pointer (some ⟨b, 0, none⟩), .int .i64 (i : Int), .int .i64 (k : Int)] w fun e w' => e = .returned (.tuple #[]) ∧ IsPile w' base b mb v (swapL L i k x y) ((D.put (.int .i64 y.2) (.lit (.int .i64 (i : Int)))).put (.int .i64 x.2) (.lit (.int .i64 (k : Int)))) ∧ Chg (fun j => v.ownBlock = some j ∨ j = mb) w w' := by
  obtain ⟨c0, c1, f0, hlt⟩ := h.cells
  have hil := (List.getElem?_eq_some_iff.1 hx).1
  have hkl := (List.getElem?_eq_some_iff.1 hy).1
  have hsm := h.small
  obtain ⟨g, cap, rfl, x0, x1, fg, hgl⟩ := h.rowAt hx
  obtain ⟨g', cap', hv, y0, y1, _, _⟩ := h.rowAt hy
  injection hv with hv1 _ hv3
  injection hv1 with hv1
  injection hv1 with hv1
  subst hv1
  subst hv3
  have hgb : g ≠ b := fun e => own_ne (t := 89) h.row h.blk (by decide) (by rw [e]; rfl)
  have hbg : b ≠ g := Ne.symm hgb
  obtain ⟨xa, xb⟩ := x
  obtain ⟨ya, yb⟩ := y
  have n1 : i * 2 ≠ k * 2 := by omega
  have n2 : i * 2 ≠ k * 2 + 1 := by omega
  have n3 : i * 2 + 1 ≠ k * 2 := by omega
  have n4 : i * 2 + 1 ≠ k * 2 + 1 := by omega
  have HX := Aside0.mk hx
  have HY := Aside0.mk hy
  have H := Aside0.mk h
  have HPL := Aside0.mk (h.pl.swap h.map.isMap h.nd hx hy hik)
  have hmg : mb ≠ g := fun e => by
    obtain ⟨es, cl, h1, _⟩ := h.map
    rcases h.row.2 with ⟨e1, _⟩ | ⟨g', cap', cur, e1, _, hh, _⟩
    · cases e1
    · injection e1 with e1 _ _
      injection e1 with e1
      injection e1 with e1 _ _
      subst e1
      rw [← e, h1] at hh
      cases hh
  have hmbb : b ≠ mb := fun e => by
    obtain ⟨es, cl, h1, _⟩ := h.map
    have := h.blk
    unfold Blk at this
    rw [e, h1] at this
    cases this
  obtain ⟨W1, hW1⟩ : ∃ W1, W1 = ((((w.setCell ⟨g, i * 2, none⟩ (.int .i64 ya)).setCell ⟨g, i * 2 + 1, none⟩ (.int .i64 yb)).setCell ⟨g, k * 2, none⟩ (.int .i64 xa)).setCell ⟨g, k * 2 + 1, none⟩ (.int .i64 xb)).drew := ⟨_, rfl⟩
  have hrow1 : W1.ownsRow base 30 2 (.slice (some ⟨g, 0, none⟩) L.length cap) L.length ((swapL L i k (xa, xb) (ya, yb)).flatMap encI) := by
    rw [hW1]
    exact own_itemset (y := (xa, xb)) (own_itemset (y := (ya, yb)) h.row hx) (by rw [List.getElem?_set_ne hik]; exact hy)
  have hblk1 : Blk W1 b #[.slice (some ⟨g, 0, none⟩) L.length cap, .map (some mb)] 89 := by
    rw [hW1]
    exact ((((h.blk.other _ _ hgb).other _ _ hgb).other _ _ hgb).other _ _ hgb)
  have hmap1 : isMi W1 mb L.length D := by
    rw [hW1]
    exact ((((h.map.setCell hmg _).setCell hmg _).setCell hmg _).setCell hmg _).drew
  have hchg1 : Chg (fun j => (Value.slice (some ⟨g, 0, none⟩) L.length cap).ownBlock = some j ∨ j = mb) w W1 := by
    rw [hW1]
    exact (((((Chg.refl _ w).setb (.inl rfl) _).setb (.inl rfl) _).setb (.inl rfl) _).setb (.inl rfl) _).drew
  have hsl : (swapL L i k (xa, xb) (ya, yb)).length = L.length := by unfold swapL; simp
  have d0 := hblk1.cell 0 _ rfl
  have d1 := hblk1.cell 1 _ rfl
  have hlt1 := hblk1.lt
  have e1 : W1.cell? ⟨g, i * 2 + 1, none⟩ = some (.int .i64 yb) := by
    refine own_cellg hrow1 (i * 2 + 1) _ (flat_get (enc := encI) (sz := 2) (fun _ => rfl) _ i (ya, yb) ?_ 1 _ rfl)
    unfold swapL
    rw [List.getElem?_set_ne (Ne.symm hik), List.getElem?_set_self hil]
  have e2 : W1.cell? ⟨g, k * 2 + 1, none⟩ = some (.int .i64 xb) := by
    refine own_cellg hrow1 (k * 2 + 1) _ (flat_get (enc := encI) (sz := 2) (fun _ => rfl) _ k (xa, xb) ?_ 1 _ rfl)
    unfold swapL
    rw [List.getElem?_set_self (by simpa using hkl)]
  have hwx := h.wf _ (List.mem_of_getElem? hx)
  have hwy := h.wf _ (List.mem_of_getElem? hy)
  have hn1 : L.length + 1 < maxLen := by unfold maxLen; omega
  have wfi : (Lit.int .i64 (i : Int)).wf = true := by simp [Lit.wf, IntKind.min, IntKind.max, IntKind.signed, IntKind.bits]; omega
  have wfk : (Lit.int .i64 (k : Int)).wf = true := by simp [Lit.wf, IntKind.min, IntKind.max, IntKind.signed, IntKind.bits]; omega
  obtain ⟨s, st, w2, a1, a2, a3, a4⟩ := entry_ig hmap1.drew (by omega) yb hwy.2
  obtain ⟨w3, a5, hm3, hg3⟩ := a4 i wfi
  obtain ⟨s', st', w4, b1, b2, b3, b4⟩ := entry_ig hm3 hn1 xb hwx.2
  obtain ⟨w5, b5, hm5, hg5⟩ := b4 k wfk
  have HR := Aside0.mk hrow1
  have HBK := Aside0.mk hblk1
  have HCH := Aside0.mk hchg1
  have HM5 := Aside0.mk hm5
  have HG3 := Aside0.mk hg3
  have HG5 := Aside0.mk hg5
  clear h hx hy hrow1 hblk1 hmap1 hchg1 hwx hwy a4 b4 hm3 hm5 hg3 hg5
  go_enter Try.func149, Try.ntmps149
  go_wp2_with fail
  go_region
  rw [← hW1]
  clear hW1 x0 x1 y0 y1 c0 c1
  go_wp2_with fail
  go_region
  go_end0
  refine ⟨rfl, ?_, ?_⟩
  · have hp := swapL_perm HX.out HY.out
    have hl : (swapL L i k (xa, xb) (ya, yb)).length = L.length := hp.length_eq
    have hne : ∀ q, Value.ownBlock (.slice (some ⟨g, 0, none⟩) L.length cap) = some q → some q ≠ some mb := fun q hq e => by
      have : g = q := by simpa [Value.ownBlock] using hq
      exact hmg (by rw [this]; exact (Option.some.inj e).symm)
    refine ⟨H.out.le, ?_, ?_, ?_, HPL.out, fun z hz => H.out.wf z (hp.mem_iff.1 hz), (hp.map _).nodup_iff.2 H.out.nd, by rw [hl]; exact H.out.small⟩
    · have h3 : Blk w3 b _ _ := HBK.out.drew.of_block (HG3.out.block b HBK.out.lt (by simpa using hmbb))
      exact h3.of_block (HG5.out.block b h3.lt (by simpa using hmbb))
    · rw [hl]
      have h3 := own_of_block HR.out (w1 := w3) fun q hq => HG3.out.block q (own_lt HR.out q hq) (hne q hq)
      exact own_of_block h3 fun q hq => HG5.out.block q (own_lt h3 q hq) (hne q hq)
    · exact mi_tight HM5.out HPL.out
  · refine (HCH.out.trans ((Chg.refl _ W1).drew)).trans (Chg.trans (b := w3) ?_ ?_)
    · exact ⟨HG3.out.os, HG3.out.tape, HG3.out.output, HG3.out.size, fun q hq hs => HG3.out.block q hq fun e => hs (.inr (Option.some.inj e))⟩
    · exact ⟨HG5.out.os, HG5.out.tape, HG5.out.output, HG5.out.size, fun q hq hs => HG5.out.block q hq fun e => hs (.inr (Option.some.inj e))⟩
end
end Go.Proofs.Ytoklhhcjcecbbaa.M
