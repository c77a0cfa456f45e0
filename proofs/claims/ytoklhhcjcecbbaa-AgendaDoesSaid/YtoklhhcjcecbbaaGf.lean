/- Agenda: Swap of an item with itself. Conditions: as in the texts before. -/
import Derived.Test.YtoklhhcjcecbbaaGe
namespace Go.Proofs.Ytoklhhcjcecbbaa.M
open Go.RowKit Go.Maps Go.Proofs.YtoklhhcjcecbbaaW.PrintWords Go.Proofs.YtoklhhcjcecbbaaW.PrintLast Go.Proofs.YtoklhhcjcecbbaaW.PrintMore
set_option linter.unusedVariables false
set_option linter.unusedSimpArgs false
section
variable {w w1 : World} {base b mb : Nat} {v : Value} {L : List It} {D : DataW Unit}
set_option maxHeartbeats 2000000 in
set_option maxRecDepth 100000 in
theorem pSwap_eq (h : IsPile w base b mb v L D) (i : Nat) (x : It) (hx : L[i]? = some x) :
    Calls Try.prog 149 #[.pointer (some ⟨b, 0, none⟩), .int .i64 (i : Int), .int .i64 (i : Int)] w fun e w' => e = .returned (.tuple #[]) ∧ IsPile w' base b mb v L ((D.put (.int .i64 x.2) (.lit (.int .i64 (i : Int)))).put (.int .i64 x.2) (.lit (.int .i64 (i : Int)))) ∧ Chg (fun j => v.ownBlock = some j ∨ j = mb) w w' := by
  obtain ⟨c0, c1, f0, hlt⟩ := h.cells
  have hil := (List.getElem?_eq_some_iff.1 hx).1
  have hsm := h.small
  obtain ⟨g, cap, rfl, x0, x1, fg, hgl⟩ := h.rowAt hx
  have hgb : g ≠ b := fun e => own_ne (t := 89) h.row h.blk (by decide) (by rw [e]; rfl)
  have hbg : b ≠ g := Ne.symm hgb
  obtain ⟨xa, xb⟩ := x
  have HX := Aside0.mk hx
  have H := Aside0.mk h
  have HPL := Aside0.mk ((h.pl.same h.map.isMap h.nd hx).same (h.map.isMap.put _ _) h.nd hx)
  have hmg : mb ≠ g := fun e => by
    obtain ⟨es, cl, h1, _⟩ := h.map
    rcases h.row.2 with ⟨e1, _⟩ | ⟨g', cap', cur, e1, _, hh, _⟩
    · cases e1
    · injection e1 with e1 _ _
      injection e1 with e1
      injection e1 with e1 _ _
      subst e1
      rw [← e, h1] at hh
      cases hh
  have hmbb : b ≠ mb := fun e => by
    obtain ⟨es, cl, h1, _⟩ := h.map
    have := h.blk
    unfold Blk at this
    rw [e, h1] at this
    cases this
  obtain ⟨W1, hW1⟩ : ∃ W1, W1 = ((((w.setCell ⟨g, i * 2, none⟩ (.int .i64 xa)).setCell ⟨g, i * 2 + 1, none⟩ (.int .i64 xb)).setCell ⟨g, i * 2, none⟩ (.int .i64 xa)).setCell ⟨g, i * 2 + 1, none⟩ (.int .i64 xb)).drew := ⟨_, rfl⟩
  have hrow1 : W1.ownsRow base 30 2 (.slice (some ⟨g, 0, none⟩) L.length cap) L.length (L.flatMap encI) := by
    rw [hW1]
    have hset : L.set i (xa, xb) = L := by
      refine List.ext_getElem? fun j => ?_
      rw [List.getElem?_set]
      split
      · rename_i e; subst e; first | exact hx.symm | (rw [if_pos hil]; exact hx.symm)
      · first | rfl | simp_all
    have r1 := own_itemset (y := (xa, xb)) h.row hx
    rw [hset] at r1
    have r2 := own_itemset (y := (xa, xb)) r1 hx
    rw [hset] at r2
    exact r2
  have hblk1 : Blk W1 b #[.slice (some ⟨g, 0, none⟩) L.length cap, .map (some mb)] 89 := by
    rw [hW1]
    exact ((((h.blk.other _ _ hgb).other _ _ hgb).other _ _ hgb).other _ _ hgb)
  have hmap1 : isMi W1 mb L.length D := by
    rw [hW1]
    exact ((((h.map.setCell hmg _).setCell hmg _).setCell hmg _).setCell hmg _).drew
  have hchg1 : Chg (fun j => (Value.slice (some ⟨g, 0, none⟩) L.length cap).ownBlock = some j ∨ j = mb) w W1 := by
    rw [hW1]
    exact (((((Chg.refl _ w).setb (.inl rfl) _).setb (.inl rfl) _).setb (.inl rfl) _).setb (.inl rfl) _).drew
  have d0 := hblk1.cell 0 _ rfl
  have d1 := hblk1.cell 1 _ rfl
  have hlt1 := hblk1.lt
  have e1 : W1.cell? ⟨g, i * 2 + 1, none⟩ = some (.int .i64 xb) := own_cellg hrow1 (i * 2 + 1) _ (flat_get (enc := encI) (sz := 2) (fun _ => rfl) _ i (xa, xb) hx 1 _ rfl)
  have hwx := h.wf _ (List.mem_of_getElem? hx)
  have hn1 : L.length + 1 < maxLen := by unfold maxLen; omega
  have wfi : (Lit.int .i64 (i : Int)).wf = true := by simp [Lit.wf, IntKind.min, IntKind.max, IntKind.signed, IntKind.bits]; omega
  obtain ⟨s, st, w2, a1, a2, a3, a4⟩ := entry_ig hmap1.drew (by omega) xb hwx.2
  obtain ⟨w3, a5, hm3, hg3⟩ := a4 i wfi
  obtain ⟨s', st', w4, b1, b2, b3, b4⟩ := entry_ig hm3 hn1 xb hwx.2
  obtain ⟨w5, b5, hm5, hg5⟩ := b4 i wfi
  have HR := Aside0.mk hrow1
  have HBK := Aside0.mk hblk1
  have HCH := Aside0.mk hchg1
  have HM5 := Aside0.mk hm5
  have HG3 := Aside0.mk hg3
  have HG5 := Aside0.mk hg5
  clear h hx hrow1 hblk1 hmap1 hchg1 hwx a4 b4 hm3 hm5 hg3 hg5
  go_enter Try.func149, Try.ntmps149
  go_wp2_with fail
  go_region
  rw [← hW1]
  clear hW1 x0 x1 c0 c1
  go_wp2_with fail
  go_region
  go_end0
  refine ⟨rfl, ?_, ?_⟩
  · have hl : L.length = L.length := rfl
    have hne : ∀ q, Value.ownBlock (.slice (some ⟨g, 0, none⟩) L.length cap) = some q → some q ≠ some mb := fun q hq e => by
      have : g = q := by simpa [Value.ownBlock] using hq
      exact hmg (by rw [this]; exact (Option.some.inj e).symm)
    refine ⟨H.out.le, ?_, ?_, ?_, HPL.out, H.out.wf, H.out.nd, H.out.small⟩
    · have h3 : Blk w3 b _ _ := HBK.out.drew.of_block (HG3.out.block b HBK.out.lt (by simpa using hmbb))
      exact h3.of_block (HG5.out.block b h3.lt (by simpa using hmbb))
    · have h3 := own_of_block HR.out (w1 := w3) fun q hq => HG3.out.block q (own_lt HR.out q hq) (hne q hq)
      exact own_of_block h3 fun q hq => HG5.out.block q (own_lt h3 q hq) (hne q hq)
    · exact mi_tight HM5.out HPL.out
  · refine (HCH.out.trans ((Chg.refl _ W1).drew)).trans (Chg.trans (b := w3) ?_ ?_)
    · exact ⟨HG3.out.os, HG3.out.tape, HG3.out.output, HG3.out.size, fun q hq hs => HG3.out.block q hq fun e => hs (.inr (Option.some.inj e))⟩
    · exact ⟨HG5.out.os, HG5.out.tape, HG5.out.output, HG5.out.size, fun q hq hs => HG5.out.block q hq fun e => hs (.inr (Option.some.inj e))⟩
end
end Go.Proofs.Ytoklhhcjcecbbaa.M
