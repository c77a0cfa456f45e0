/- Agenda: Pop of a pile; Swap of one with itself. Conditions: as in the texts before. -/
import Derived.Test.YtoklhhcjcecbbaaGd
namespace Go.Proofs.Ytoklhhcjcecbbaa.M
open Go.RowKit Go.Maps Go.Proofs.YtoklhhcjcecbbaaW.PrintWords Go.Proofs.YtoklhhcjcecbbaaW.PrintLast Go.Proofs.YtoklhhcjcecbbaaW.PrintMore
set_option linter.unusedVariables false
set_option linter.unusedSimpArgs false
theorem own_cap' {w : World} {base n cap : Nat} {e : TypeId} {sz : Nat} {A : Option Addr} {xs : List Value} (h : w.ownsRow base e sz (.slice A n cap) n xs) : n ≤ cap := by
  rcases h.2 with ⟨h1, h2⟩ | ⟨g, c, cur, h1, _, _, hle, _⟩
  · cases h1; exact Nat.le_refl _
  · cases h1; exact hle
theorem own_shrink {w : World} {base n m cap : Nat} {e : TypeId} {sz : Nat} {A : Option Addr} {xs : List Value} (h : w.ownsRow base e sz (.slice A n cap) n xs) (hm : m ≤ n) (hA : A ≠ none) : w.ownsRow base e sz (.slice A m cap) m (xs.take (m * sz)) := by
  have hmul : m * sz ≤ n * sz := Nat.mul_le_mul_right _ hm
  refine ⟨by rw [List.length_take, h.1]; omega, ?_⟩
  rcases h.2 with ⟨e1, _⟩ | ⟨g, c, cur, e1, hb, hh, hn, hc, hs, ht⟩
  · cases e1; exact absurd rfl hA
  · cases e1
    refine .inr ⟨g, cap, cur, rfl, hb, hh, by omega, hc, hs, ?_⟩
    rw [← ht, List.take_take, Nat.min_eq_left hmul]
theorem Pl.pop {D : DataW Unit} {L : List It} {x : It} (hD : IsMap D) (h : Pl D (L ++ [x])) (hk : ∀ z ∈ L, z.2 ≠ x.2) : Pl (D.del (.int .i64 x.2)) L := by
  refine ⟨fun j z hz => ?_, fun q hq => ?_⟩
  · have hj := (List.getElem?_eq_some_iff.1 hz).1
    rw [atKey_del_other (by simpa using hk z (List.mem_of_getElem? hz))]
    exact h.at_ j z (by rw [List.getElem?_append_left hj]; exact hz)
  · by_cases h1 : q = x.2
    · subst h1
      rw [has_del_same]
      symm
      rw [List.any_eq_false]
      intro z hz
      simpa using hk z hz
    · rw [has_del_other (by simpa using h1), h.has_ q hq, List.any_append]
      have : (x.2 == q) = false := by rw [beq_eq_false_iff_ne]; exact Ne.symm h1
      simp [this]
section
variable {w w1 : World} {base b mb : Nat} {v : Value} {L : List It} {D : DataW Unit}
set_option maxHeartbeats 2000000 in
set_option maxRecDepth 100000 in
theorem pPop_calls (x : It) (h : IsPile w base b mb v (L ++ [x]) D) :
    Calls Try.prog 147 #[.pointer (some ⟨b, 0, none⟩)] w fun e w' => e = .returned (.iface 30 (itV x)) ∧ ∃ v', IsPile w' base b mb v' L (D.del (.int .i64 x.2)) ∧ v'.ownBlock = v.ownBlock ∧ Chg (fun j => j = b ∨ v.ownBlock = some j ∨ j = mb) w w' := by
  obtain ⟨hbm, hvm, hvb⟩ := h.apart
  have hat : (L ++ [x])[L.length]? = some x := by simp
  have hlen : (L ++ [x]).length = L.length + 1 := by simp
  obtain ⟨g, cap, rfl, x0, x1, fg, hgl⟩ := h.rowAt hat
  rw [hlen] at hvm hvb
  have hnd := h.nd
  rw [List.map_append, List.nodup_append] at hnd
  have hk : ∀ z ∈ L, z.2 ≠ x.2 := fun z hz e => hnd.2.2 z.2 (List.mem_map.2 ⟨z, hz, rfl⟩) x.2 (by simp) e
  have hwx := h.wf x (by simp)
  have HPL := Aside0.mk (h.pl.pop h.map.isMap hk)
  have HND := Aside0.mk hnd.1
  have HWF := Aside0.mk (fun z (hz : z ∈ L) => h.wf z (List.mem_append_left _ hz))
  have hsm := h.small
  rw [hlen] at hsm
  have hrow := h.row
  rw [hlen] at hrow
  have hcap := own_cap' hrow
  obtain ⟨xa, xb⟩ := x
  obtain ⟨c0, c1, f0, hlt⟩ := h.cells
  rw [hlen] at c0
  have hblk := h.blk
  rw [hlen] at hblk
  obtain ⟨W1, hW1⟩ : ∃ W1, W1 = (w.setCell ⟨b, 0, none⟩ (.slice (some ⟨g, 0, none⟩) L.length cap)).alloc (.cells #[.int .i64 xa, .int .i64 xb] 30) := ⟨_, rfl⟩
  have hblk1 : Blk W1 b #[.slice (some ⟨g, 0, none⟩) L.length cap, .map (some mb)] 89 := by rw [hW1]; exact (hblk.set 0 (.slice (some ⟨g, 0, none⟩) L.length cap)).alloc _
  have hsz : (w.setCell ⟨b, 0, none⟩ (.slice (some ⟨g, 0, none⟩) L.length cap)).heap.size = w.heap.size := by simp [World.setCell]
  have hloc1 : Blk W1 w.heap.size #[.int .i64 xa, .int .i64 xb] 30 := by
    rw [hW1]
    have := Blk.new (w.setCell ⟨b, 0, none⟩ (.slice (some ⟨g, 0, none⟩) L.length cap)) #[.int .i64 xa, .int .i64 xb] 30
    rwa [hsz] at this
  have hrow1 : W1.ownsRow base 30 2 (.slice (some ⟨g, 0, none⟩) (L.length + 1) cap) (L.length + 1) ((L ++ [(xa, xb)]).flatMap encI) := by
    rw [hW1]
    exact (own_setCell (p := ⟨b, 0, none⟩) hrow (fun e => hvb e.symm) _).alloc _
  have hmap1 : isMi W1 mb (L ++ [(xa, xb)]).length D := by
    rw [hW1]
    exact (h.map.setCell (Ne.symm hbm) _).alloc _
  have e1 := hblk1.cell 1 (.map (some mb)) rfl
  have m0 := hloc1.cell 0 (.int .i64 xa) rfl
  have m1 := hloc1.cell 1 (.int .i64 xb) rfl
  obtain ⟨W2, hrun, hmap2, hmt⟩ := World.ownsMap.drop (w := W1.drew) hmap1.drew lawI und_mi (keyOf_int_mk Try.underlying3 hwx.2) 0
  have hc2 : Chg (fun j => j = mb) W1 W2 := ((Chg.refl _ W1).drew).trans (mt_chg hmt rfl)
  have hloc2 : Blk W2 w.heap.size #[.int .i64 xa, .int .i64 xb] 30 := hloc1.of_block (hc2.block _ hloc1.lt (by have := h.map.lt; omega))
  have n0 := hloc2.cell 0 (.int .i64 xa) rfl
  have n1 := hloc2.cell 1 (.int .i64 xb) rfl
  have HB2 := Aside0.mk (show Blk W2 b #[.slice (some ⟨g, 0, none⟩) L.length cap, .map (some mb)] 89 from hblk1.of_block (hc2.block b hblk1.lt hbm))
  have HR2 := Aside0.mk (own_of_block hrow1 (w1 := W2) fun q hq => hc2.block q (own_lt hrow1 q hq) (fun e => hvm (by rw [hq, e])))
  have HM2 := Aside0.mk hmap2
  have HC2 := Aside0.mk (show Chg (fun j => j = b ∨ (Value.slice (some ⟨g, 0, none⟩) (L.length + 1) cap).ownBlock = some j ∨ j = mb) w W2 by
    refine Chg.trans (b := W1) ?_ (hc2.mono fun j hj => .inr (.inr hj))
    rw [hW1]
    exact ((Chg.refl _ w).setb (.inl rfl) _).alloc _)
  have hle := h.le
  have g1 : (0 : Int) ≤ (L.length : Int) := by omega
  have g2 : (L.length : Int) < (L.length : Int) + 1 := by omega
  have ws : IntKind.i64.wrap ((L.length : Int) + 1 - 1) = (L.length : Int) := by rw [i64_wrap]; omega
  rw [hlen]
  clear h hat hnd hk hwx hrow hblk hblk1 hloc1 hrow1 hmap1 hmap2 hmt hc2 hloc2 hvm hvb
  go_enter Try.func147, Try.ntmps147
  go_wp2_with fail
  rw [← hW1]
  clear hW1 c0 f0 hlt x0 x1 m0
  go_region
  all_goals go_wp2_with fail
  all_goals go_ret
  all_goals
    refine ⟨rfl, .slice (some ⟨g, 0, none⟩) L.length cap, ⟨hle, HB2.out, ?_, mi_tight HM2.out HPL.out, HPL.out, HWF.out, HND.out, by omega⟩, rfl, HC2.out⟩
    have hs := own_shrink (m := L.length) HR2.out (by omega) (by simp)
    rw [List.flatMap_append, List.take_append_of_le_length (by rw [flat_len (sz := 2) (fun _ => rfl)]; omega), List.take_of_length_le (by rw [flat_len (sz := 2) (fun _ => rfl)]; omega)] at hs
    exact hs
/-- The swap of one with itself. -/
theorem Pl.same {D : DataW Unit} {L : List It} (hD : IsMap D) (h : Pl D L) {i : Nat} {x : It} (hnd : (L.map (·.2)).Nodup) (hx : L[i]? = some x) : Pl (D.put (.int .i64 x.2) (.lit (.int .i64 (i : Int)))) L := by
  refine ⟨fun j z hz => ?_, fun q hq => ?_⟩
  · by_cases h1 : j = i
    · subst h1
      obtain rfl := Option.some.inj (hx.symm.trans hz)
      exact atKey_put_same hD (lit_key _) _ _
    · rw [atKey_put_other (by simpa using fun e => h1 (key_at hnd hz hx e))]
      exact h.at_ j z hz
  · by_cases h1 : q = x.2
    · subst h1
      rw [has_put_same hD (lit_key _)]
      symm
      rw [List.any_eq_true]
      exact ⟨x, List.mem_of_getElem? hx, by simp⟩
    · rw [has_put_other (by simpa using h1)]
      exact h.has_ q hq
end
end Go.Proofs.Ytoklhhcjcecbbaa.M
