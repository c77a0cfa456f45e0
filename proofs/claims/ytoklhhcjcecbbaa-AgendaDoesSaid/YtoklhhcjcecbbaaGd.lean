/- Agenda: Push of a pile; Swap of one with itself. Conditions: as in the texts before. -/
import Derived.Test.YtoklhhcjcecbbaaGc
import Derived.Deep.RegionLaw
import Derived.Deep.AppendLies
namespace Go.Proofs.Ytoklhhcjcecbbaa.M
open Go.RowKit Go.Maps Go.Proofs.YtoklhhcjcecbbaaW.PrintWords Go.Proofs.YtoklhhcjcecbbaaW.PrintLast Go.Proofs.YtoklhhcjcecbbaaW.PrintMore
set_option linter.unusedVariables false
set_option linter.unusedSimpArgs false
theorem infoItem : (Try.prog.info? 30).map (fun i => (i.zero, i.size, i.bytes)) = some (some (.agg #[.int .i64 0, .int .i64 0]), 2, 16) := by kernel_rfl
theorem Pl.push {D : DataW Unit} {L : List It} (hD : IsMap D) (h : Pl D L) {x : It} (hx : ∀ z ∈ L, z.2 ≠ x.2) : Pl (D.put (.int .i64 x.2) (.lit (.int .i64 (L.length : Int)))) (L ++ [x]) := by
  refine ⟨fun j z hz => ?_, fun q hq => ?_⟩
  · by_cases h1 : j < L.length
    · rw [List.getElem?_append_left h1] at hz
      have := hx z (List.mem_of_getElem? hz)
      rw [atKey_put_other (by simpa using this)]
      exact h.at_ j z hz
    · rw [List.getElem?_append_right (by omega)] at hz
      obtain ⟨hj, hz⟩ := List.getElem?_eq_some_iff.1 hz
      simp at hj
      have hjl : j = L.length := by omega
      subst hjl
      simp at hz
      subst hz
      exact atKey_put_same hD (lit_key _) _ _
  · rw [List.any_append]
    by_cases h1 : q = x.2
    · subst h1
      rw [has_put_same hD (lit_key _)]
      simp
    · rw [has_put_other (by simpa using h1), h.has_ q hq]
      have : (x.2 == q) = false := by rw [beq_eq_false_iff_ne]; exact Ne.symm h1
      simp [this]
theorem mt_chg {w w1 : World} {mb : Nat} {S : Nat → Prop} (h : w.mapTurned w1 mb) (hS : S mb) : Chg S w w1 := by
  obtain ⟨es, cl, es', cl', hb, rfl⟩ := h
  refine ⟨rfl, rfl, rfl, by simp [Go.ChangeMaps.setBlock], fun i hi hs => ?_⟩
  exact Go.ChangeMaps.heap_setBlock_other hb _ (fun e => hs (by rw [e]; exact hS))
section
variable {w w1 : World} {base b mb : Nat} {v : Value} {L : List It} {D : DataW Unit}
theorem IsPile.apart (h : IsPile w base b mb v L D) : b ≠ mb ∧ v.ownBlock ≠ some mb ∧ v.ownBlock ≠ some b := by
  refine ⟨fun e => ?_, fun e => ?_, fun e => own_ne (t := 89) h.row h.blk (by decide) e.symm⟩
  · obtain ⟨es, cl, h1, _⟩ := h.map
    have := h.blk
    unfold Blk at this
    rw [e, h1] at this
    cases this
  · obtain ⟨es, cl, h1, _⟩ := h.map
    rcases h.row.2 with ⟨e1, _⟩ | ⟨g', cap', cur, e1, _, hh, _⟩
    · rw [e1] at e; simp [Value.ownBlock] at e
    · rw [e1] at e
      have hgi : g' = mb := by simpa [Value.ownBlock] using e
      rw [hgi, h1] at hh
      cases hh
set_option maxHeartbeats 2000000 in
set_option maxRecDepth 100000 in
theorem pPush_calls (h : IsPile w base b mb v L D) (x : It) (hx : wfI x) (hk : ∀ z ∈ L, z.2 ≠ x.2) (hl : L.length < 1000000) (hbase : base ≤ w.heap.size) :
    Calls Try.prog 148 #[.pointer (some ⟨b, 0, none⟩), .iface 30 (itV x)] w fun e w' => e = .returned (.tuple #[]) ∧ ∃ v', IsPile w' base b mb v' (L ++ [x]) (D.put (.int .i64 x.2) (.lit (.int .i64 (L.length : Int)))) ∧ Chg (fun j => j = b ∨ v.ownBlock = some j ∨ j = mb) w w' ∧ NewRow w v v' := by
  obtain ⟨xa, xb⟩ := x
  have ta : ∀ W, (Instr.typeAssert (.iface 30 (.agg #[.int .i64 xa, .int .i64 xb])) 20 30 true).run Try.prog W = .ok (.tuple #[.agg #[.int .i64 xa, .int .i64 xb], .bool true]) W := fun W => by kernel_rfl
  obtain ⟨hbm, hvm, hvb⟩ := h.apart
  obtain ⟨A, cap, hv⟩ := own_slice h.row
  subst hv
  obtain ⟨i0, hi, hzz⟩ := Option.map_eq_some_iff.1 infoItem
  simp only [Prod.mk.injEq] at hzz
  obtain ⟨hz, hs1, hb1⟩ := hzz
  have HI := Aside0.mk hi
  have HZ := Aside0.mk hz
  have HS1 := Aside0.mk hs1
  have HB1 := Aside0.mk hb1
  have H := Aside0.mk h
  obtain ⟨W0, hW0⟩ : ∃ W0, W0 = w.alloc (.cells #[.int .i64 xa, .int .i64 xb] 30) := ⟨_, rfl⟩
  have hbw0 : Bw w W0 := by rw [hW0]; exact (Bw.refl w).alloc _
  have h0 := h.bw hbw0
  have hloc : Blk W0 w.heap.size #[.int .i64 xa, .int .i64 xb] 30 := by rw [hW0]; exact Blk.new w _ _
  obtain ⟨c0, c1, f0, hlt⟩ := h0.cells
  have l1 := hloc.cell 1 (.int .i64 xb) rfl
  have hllt := hloc.lt
  have wfl : (Lit.int .i64 (L.length : Int)).wf = true := wf_of_nat h.small
  obtain ⟨W2, hrun, hmap2, hmt⟩ := World.ownsMap.store (w := W0.drew) h0.map.drew lawI und_mi (by unfold maxLen; omega) (keyOf_int_mk Try.underlying3 hx.2) (plainElem_int (H := Unit) Try.underlying3 wfl)
  have hc2 : Chg (fun j => j = mb) W0 W2 := ((Chg.refl _ W0).drew).trans (mt_chg hmt rfl)
  have hblk2 : Blk W2 b #[.slice A L.length cap, .map (some mb)] 89 := h0.blk.of_block (hc2.block b h0.blk.lt hbm)
  have hloc2 : Blk W2 w.heap.size #[.int .i64 xa, .int .i64 xb] 30 := hloc.of_block (hc2.block _ hloc.lt (by have := h.map.lt; omega))
  have hrow2 : W2.ownsRow base 30 2 (.slice A L.length cap) L.length (L.flatMap encI) := own_of_block h0.row fun g hg => hc2.block g (own_lt h0.row g hg) (fun e => hvm (by rw [hg, e]))
  have d0 := hblk2.cell 0 (.slice A L.length cap) rfl
  have m0 := hloc2.cell 0 (.int .i64 xa) rfl
  have m1 := hloc2.cell 1 (.int .i64 xb) rfl
  have hlt2 := hblk2.lt
  obtain ⟨W3, hW3⟩ : ∃ W3, W3 = (W2.alloc (.cells #[.int .i64 xa, .int .i64 xb] 30)).drew := ⟨_, rfl⟩
  have HO3 := Aside0.mk (show W3.ownsRow base 30 2 (.slice A L.length cap) L.length (L.flatMap encI) by rw [hW3]; exact hrow2.alloc _)
  have HN3 := Aside0.mk (show ∀ (j : Nat) (u : Value), [Value.int .i64 xa, Value.int .i64 xb][j]? = some u → W3.cell? ((⟨W2.heap.size, 0, none⟩ : Addr).add j) = some u by rw [hW3]; exact World.news_of_block (w := (W2.alloc (.cells #[.int .i64 xa, .int .i64 xb] 30)).drew) (cs := #[.int .i64 xa, .int .i64 xb]) (Blk.new W2 #[.int .i64 xa, .int .i64 xb] 30))
  have HB3 := Aside0.mk (show Blk W3 b #[.slice A L.length cap, .map (some mb)] 89 by rw [hW3]; exact hblk2.alloc _)
  have HM3 := Aside0.mk (show isMi W3 mb (L.length + 1) _ by rw [hW3]; exact (hmap2.alloc _).drew)
  have HSZ := Aside0.mk (show W3.heap.size = W2.heap.size + 1 by rw [hW3]; simp)
  have HC3 := Aside0.mk (show Chg (fun j => j = b ∨ (Value.slice A L.length cap).ownBlock = some j ∨ j = mb) w W3 by
    rw [hW3]
    exact (((Chg.of_bw hbw0).trans (hc2.mono fun j hj => .inr (.inr hj))).alloc _).drew)
  have HWS := Aside0.mk (show w.heap.size ≤ W2.heap.size from Nat.le_trans hbw0.size hc2.size)
  have hbs : base ≤ W3.heap.size := Nat.le_trans hbase HC3.out.size
  have HPL := Aside0.mk (h.pl.push h.map.isMap (x := (xa, xb)) hk)
  have HX := Aside0.mk hx
  have HK := Aside0.mk hk
  have h63 : L.length + 1 ≤ maxLen := by unfold maxLen; omega
  have HVM := Aside0.mk hvm
  have HVB := Aside0.mk hvb
  have HBM := Aside0.mk hbm
  clear h hi hz hs1 hb1 hbw0 h0 hloc hmap2 hmt hc2 hblk2 hloc2 hrow2 hx hk hvm hvb hbm
  subst hW3
  go_enter Try.func148, Try.ntmps148
  go_wp2_with fail
  rw [← hW0]
  clear hW0 ta
  have hwl : wrap64 (L.length : Int) = L.length := by have := hl; simp [wrap64]; omega
  go_region
  clear hrun c0 c1 f0 hlt l1 wfl hllt
  go_wp2_with fail
  go_region_law (refine step_append_lies _ rfl (.tmp 27) (.tmp 29) 22 (by rfl) base 30 i0 (.agg #[.int .i64 0, .int .i64 0]) 2 16 Try.underlying22 HI.out HZ.out HS1.out HB1.out rfl (by omega) (.slice A L.length cap) L.length (L.flatMap encI) (by rfl) HO3.out ⟨W2.heap.size, 0, none⟩ 1 1 [.int .i64 xa, .int .i64 xb] (by rfl) rfl HN3.out (by simp [Value.oneCell']) (by omega) h63 (by omega) hbs (W2.heap.size + 1) HSZ.out ?_; intro g cap2 w4 hown4 hg4 hat4 hlt4; have HB4 := Aside0.mk (HB3.out.of_block (hg4.block _ HB3.out.lt (fun e => HVB.out e.symm))); have c4 := HB4.out.cell 0 (.slice A L.length cap) rfl; have f4 := HB4.out.free 0; have HO4 := Aside0.mk hown4; have HG4 := Aside0.mk hg4; have l4 := HB4.out.lt; have HA4 := Aside0.mk hat4; clear hown4 hg4 hat4)
  all_goals go_end0
  all_goals
    have hne : some b ≠ (Value.slice (some ⟨g, 0, none⟩) (L.length + 1) cap2).ownBlock := own_ne (t := 89) HO4.out HB4.out (by decide)
    refine ⟨rfl, .slice (some ⟨g, 0, none⟩) (L.length + 1) cap2, ⟨H.out.le, HB4.out.set 0 _, ?_, ?_, HPL.out, ?_, ?_, ?_⟩, ?_, ?_⟩
    · rw [List.length_append, List.flatMap_append]
      exact own_setCell (p := ⟨b, 0, none⟩) HO4.out hne _
    · exact mi_tight ((World.ownsMap.kept HM3.out HG4.out (fun e => HVM.out e.symm)).setCell (Ne.symm HBM.out) _) HPL.out
    · intro z hz
      rcases List.mem_append.1 hz with hz | hz
      · exact H.out.wf z hz
      · obtain rfl := List.mem_singleton.1 hz
        exact HX.out
    · rw [List.map_append]
      refine List.nodup_append.2 ⟨H.out.nd, by simp, ?_⟩
      intro q hq r hr e
      simp at hr
      obtain ⟨z, hz, rfl⟩ := List.mem_map.1 hq
      exact HK.out z hz (e.trans hr)
    · rw [List.length_append]
      simp
      omega
    · exact (HC3.out.trans ((Chg.of_grown HG4.out).mono fun j hj => .inr (.inl hj))).setb (.inl rfl) _
    · rcases HA4.out with e | e
      · exact .inl e.symm
      · exact .inr ⟨g, rfl, by have := HWS.out; omega⟩
end
end Go.Proofs.Ytoklhhcjcecbbaa.M
