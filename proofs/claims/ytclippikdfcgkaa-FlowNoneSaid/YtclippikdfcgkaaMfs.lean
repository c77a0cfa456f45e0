/- Package flow: a machine that runs others: Parts. Conditions: no more than a thousand parts of no more than a thousand accesses. -/
import Derived.Test.YtclippikdfcgkaaMfr
namespace Go.Proofs.Ytclippikdfcgkaa.M
open Go.RowKit Go.Proofs.YtclippikdfcgkaaW.PrintWords Go.Proofs.YtclippikdfcgkaaW.PrintLast Go.Proofs.YtclippikdfcgkaaW.PrintMore
set_option linter.unusedVariables false
set_option linter.unusedSimpArgs false
section
variable {w w1 : World} {base b : Nat} {s : ChS} {tv : Value} {A : Option Addr} {cap : Nat} {vg : Value} {mb bm : Nat} {vm : Value} {m : MemS} {who : Int} {subv afv : Value} {got : List Int}
theorem Blk.keepB {p g0 : Nat} {c cur : Array Value} {t t' : TypeId} (h : Blk w p c t) (hc : Chg (fun i => i = g0) w w1) (hg : w.heap[g0]? = some (.cells cur t' (0, 0))) (hne : t ≠ t' ∨ c.size ≠ cur.size) : Blk w1 p c t :=
  h.of_block (hc.block p h.lt fun e => by
    subst e
    have := h.symm.trans hg
    injection this with this
    injection this with h1 h2
    rcases hne with hne | hne
    · exact hne h2
    · exact hne (by rw [h1]))
theorem IsChain.keepB {g0 : Nat} {cur : Array Value} (h : IsChain w base b s tv A cap (.slice none 0 0)) (hc : Chg (fun i => i = g0) w w1) (hg : w.heap[g0]? = some (.cells cur 115 (0, 0))) (h2 : 2 ≤ cur.size) : IsChain w1 base b s tv A cap (.slice none 0 0) := by
  refine ⟨h.le, h.blk.keepB hc hg (.inl (by decide)), ⟨h.rest.1, h.rest.2.1, fun hn => ?_⟩, ?_, ?_, h.fun_⟩
  · obtain ⟨g, base0, cap0, i, all, e1, ho, e2⟩ := h.rest.2.2 hn
    refine ⟨g, base0, cap0, i, all, e1, own_of_block ho (fun k hk => ?_), e2⟩
    have hkg : g = k := by simpa [Value.ownBlock] using hk
    subst hkg
    rcases ho.2 with ⟨e, _⟩ | ⟨g', cap', cur', e, _, hh, _⟩
    · cases e
    · injection e with e _ _
      injection e with e
      injection e with e _ _
      subst e
      refine hc.block g (own_lt ho g rfl) fun e => ?_
      subst e
      have := hh.symm.trans hg
      injection this with this
      injection this with _ h3
      exact absurd h3 (by decide)
  · have := h.got
    rcases this.2 with ⟨_, e⟩ | ⟨g', cap', cur', e, _⟩
    · rw [List.length_eq_zero_iff.1 e]; exact own_nil _ _ _ _
    · injection e with e; cases e
  · have := h.then_
    unfold ThenOk at this ⊢
    split
    · trivial
    · rename_i h0
      rw [if_neg h0] at this
      split
      · rename_i hk
        rw [if_pos hk] at this
        obtain ⟨p, q, e, h3, h4⟩ := this
        exact ⟨p, q, e, h3.keepB hc hg (.inl (by decide)), h4.keepB hc hg (.inr (by simp; omega))⟩
      · rename_i hk
        rw [if_neg hk] at this
        split
        · rename_i hk3
          rw [if_pos hk3] at this
          obtain ⟨p, e, h4⟩ := this
          exact ⟨p, e, h4.keepB hc hg (.inl (by decide))⟩
        · rename_i hk3
          rw [if_neg hk3] at this
          exact this
theorem infoCh : (Try.prog.info? 115).map (fun i => (i.zero, i.size, i.bytes)) = some (some (.pointer none), 1, 8) := by kernel_rfl
theorem ptrRow_snoc (bs : List Nat) (b : Nat) : ptrRow (bs ++ [b]) = ptrRow bs ++ [.pointer (some ⟨b, 0, none⟩)] := by simp [ptrRow]
/-- append(parts, one): the row grew where it lay, with room for two, or all that there was is as it was. -/
theorem run_append_ptr (W : World) (base : Nat) (bs : List Nat) (v : Value) (x : Nat) (ty : TypeId) (ad : Addr) (c : Nat) (hown : W.ownsRow base 115 1 v bs.length (ptrRow bs))
    (hnew : ∀ (j : Nat) (u : Value), [Value.pointer (some ⟨x, 0, none⟩)][j]? = some u → W.cell? (ad.add j) = some u) (hl : bs.length ≤ 1000) (hbase : base ≤ W.heap.size) :
    ∃ g cap w', (Builtin.append_ #[183, 183] ty #[v, .slice (some ad) 1 c]).run Try.prog W = .ok (.slice (some ⟨g, 0, none⟩) (bs.length + 1) cap) w' ∧
      w'.ownsRow base 115 1 (.slice (some ⟨g, 0, none⟩) (bs.length + 1) cap) (bs.length + 1) (ptrRow (bs ++ [x])) ∧ W.grownBy w' v.ownBlock ∧
      (Bw W w' ∨ ∃ g0 cur, v.ownBlock = some g0 ∧ W.heap[g0]? = some (.cells cur 115 (0, 0)) ∧ (bs = [] ∨ 2 ≤ cur.size)) := by
  obtain ⟨i0, hi, hzz⟩ := Option.map_eq_some_iff.1 infoCh
  simp only [Prod.mk.injEq] at hzz
  obtain ⟨hz, hs1, hb1⟩ := hzz
  have h63 : bs.length + 1 ≤ maxLen := by simp only [maxLen]; omega
  obtain ⟨v', w', hr, h2, h3, _, _⟩ := run_append_own_at (P := Try.prog) W base 183 ty 115 i0 (.pointer none) 1 8 Try.underlying183 hi hz hs1 hb1 rfl (by omega) v bs.length (ptrRow bs) hown ad 1 c [.pointer (some ⟨x, 0, none⟩)] rfl hnew (by simp [Value.oneCell']) h63 (by omega) hbase
  obtain ⟨g, cap, rfl, _, _⟩ := h2.form (by omega)
  refine ⟨g, cap, w', hr, by rw [ptrRow_snoc]; exact h2, h3, ?_⟩
  rcases hown.2 with ⟨rfl, h0⟩ | ⟨g0, cap0, cur, rfl, hb0, hg0, hnc, hcm, hcs, htk⟩
  · have hr2 := run_append_nil (P := Try.prog) W 183 ty 115 i0 (.pointer none) Try.underlying183 hi hz ad 1 c [.pointer (some ⟨x, 0, none⟩)] (by rw [hs1]; rfl) hnew (by omega) (by omega) (by rw [hb1]; omega)
    rw [hr] at hr2
    injection hr2 with _ hw
    rw [hw]
    exact .inl ((Bw.refl W).drew.alloc _)
  · by_cases hroom : bs.length + 1 ≤ cap0
    · refine .inr ⟨g0, cur, rfl, hg0, ?_⟩
      rcases Nat.eq_zero_or_pos bs.length with h | h
      · exact .inl (List.length_eq_zero_iff.1 h)
      · exact .inr (by omega)
    · have hr2 := run_append_grow (P := Try.prog) W 183 ty 115 i0 (.pointer none) Try.underlying183 hi hz ⟨g0, 0, none⟩ bs.length cap0 (ptrRow bs) (by rw [hs1]; exact hown.1) (hown.cells (g := g0) rfl) ad 1 c [.pointer (some ⟨x, 0, none⟩)] (by rw [hs1]; rfl) hnew (by omega) (by omega) (growslice_fits (by omega) (by rw [hb1]; omega))
      rw [hr] at hr2
      injection hr2 with _ hw
      rw [hw]
      exact .inl ((Bw.refl W).drew.alloc _)
/-- The parts that were made so far. -/
structure PartsAt (w0 w : World) (who : Int) (bc : Nat) (vp : Value) (ps : List Part) (xss : List (List Acc)) : Prop where
  le : w0.heap.size ≤ bc
  blk : Blk w bc (parCells 0 Value.nilIface Value.nilFunc vp (.slice none 0 0)) 185
  row : w.ownsRow w0.heap.size 115 1 vp ps.length (ptrRow (ps.map (·.1)))
  are : AreParts w w0.heap.size ps
  ss : ps.map (·.2) = xss.map (newS who)
  ne : ∀ p ∈ ps, p.1 ≠ bc
  nd : (ps.map (·.1)).Nodup
  nil : ps = [] → vp = .slice none 0 0
  bw : Bw w0 w
theorem PartsAt.push {w0 wr w5 w6 : World} {who : Int} {bc bn : Nat} {vp vp' tvn : Value} {ps : List Part} {xss : List (List Acc)} {xs : List Acc} {An : Option Addr} {cn : Nat} (h : PartsAt w0 wr who bc vp ps xss) (hb5 : Bw wr w5)
    (hch : IsChain w5 wr.heap.size bn (newS who xs) tvn An cn (.slice none 0 0)) (hown6 : w6.ownsRow w0.heap.size 115 1 vp' (ps.length + 1) (ptrRow (ps.map (·.1) ++ [bn])))
    (hg6 : (w5.alloc (.cells #[.pointer (some ⟨bn, 0, none⟩)] 115)).grownBy w6 vp.ownBlock)
    (hor : Bw (w5.alloc (.cells #[.pointer (some ⟨bn, 0, none⟩)] 115)) w6 ∨ ∃ g0 cur, vp.ownBlock = some g0 ∧ (w5.alloc (.cells #[.pointer (some ⟨bn, 0, none⟩)] 115)).heap[g0]? = some (.cells cur 115 (0, 0)) ∧ (ps.map (·.1) = [] ∨ 2 ≤ cur.size)) :
    Blk w6 bc (parCells 0 Value.nilIface Value.nilFunc vp (.slice none 0 0)) 185 ∧ PartsAt w0 (w6.setCell ⟨bc, 10, none⟩ vp') who bc vp' (ps ++ [(bn, newS who xs)]) (xss ++ [xs]) := by
  have hba := hb5.alloc (.cells #[.pointer (some ⟨bn, 0, none⟩)] 115)
  have hAl : Bw w5 (w5.alloc (.cells #[.pointer (some ⟨bn, 0, none⟩)] 115)) := (Bw.refl w5).alloc _
  generalize w5.alloc (.cells #[.pointer (some ⟨bn, 0, none⟩)] 115) = Wa at hg6 hor hba hAl
  have blkA := h.blk.bw hba
  have rowA := pw_own_below h.row hba
  have hne : some bc ≠ vp.ownBlock := own_ne (t := 185) rowA blkA (by decide)
  have blk6 := blkA.of_block (hg6.block _ blkA.lt hne)
  have hsz : w0.heap.size ≤ wr.heap.size := h.bw.size
  have chA := hch.bw hAl
  have hbn : wr.heap.size ≤ bn := hch.le
  have hbc : bc < wr.heap.size := h.blk.lt
  have areA := h.are.bw hba
  have CG : Chg (fun i => vp.ownBlock = some i) Wa w6 := Chg.of_grown hg6
  have all6 : AreParts w6 w0.heap.size (ps ++ [(bn, newS who xs)]) := by
    intro q hq
    have hqA : ∃ tv A cap, IsChain Wa w0.heap.size q.1 q.2 tv A cap (.slice none 0 0) ∧ q.2.got = [] := by
      rcases List.mem_append.1 hq with hq | hq
      · exact areA q hq
      · simp at hq
        subst hq
        exact ⟨_, _, _, chA.down hsz, newS_got _ _⟩
    obtain ⟨tv, A, cap, hc, hg⟩ := hqA
    refine ⟨tv, A, cap, ?_, hg⟩
    rcases hor with hb | ⟨g0, cur, e, hcur, h2⟩
    · exact hc.bw hb
    · have : 2 ≤ cur.size := by
        rcases h2 with h2 | h2
        · have := h.nil (by simpa using h2)
          rw [this] at e
          simp [Value.ownBlock] at e
        · exact h2
      refine hc.keepB (g0 := g0) ?_ hcur this
      refine CG.mono fun i hi => ?_
      rw [e] at hi
      injection hi with hi
      exact hi.symm
  have C7 := (Chg.refl (fun j => j = bc) w6).setb (k := bc) (i := 10) rfl vp'
  have hne' : some bc ≠ vp'.ownBlock := own_ne (t := 185) hown6 blk6 (by decide)
  have nep : ∀ p ∈ ps ++ [(bn, newS who xs)], p.1 ≠ bc := by
    intro q hq
    rcases List.mem_append.1 hq with hq | hq
    · exact h.ne q hq
    · simp at hq
      subst hq
      show bn ≠ bc
      omega
  refine ⟨blk6, ⟨h.le, ?_, ?_, all6.chg C7 (OnlyT.blk blk6) nep, ?_, nep, ?_, fun e => by simp at e, ?_⟩⟩
  · have := blk6.set 10 vp'
    simpa [parCells] using this
  · rw [List.length_append, List.map_append]
    exact own_setCell (p := ⟨bc, 10, none⟩) hown6 hne' _
  · rw [List.map_append, List.map_append, h.ss]; rfl
  · rw [List.map_append, List.nodup_append]
    refine ⟨h.nd, by simp, ?_⟩
    intro a ha b hb
    simp at hb
    subst hb
    obtain ⟨q, hq, rfl⟩ := List.mem_map.1 ha
    obtain ⟨_, _, _, hc, _⟩ := h.are q hq
    have := hc.blk.lt
    omega
  · refine Bw.setCell ?_ h.le _
    exact (h.bw.trans hba).grown hg6 (h.bw.trans hba).size (own_base rowA)
set_option maxHeartbeats 2000000 in
set_option maxRecDepth 100000 in
theorem Parts_calls (who : Int) (A : Option Addr) (cap : Nat) (xss : List (List Acc)) (w : World) (hx : Rows2 encAc 6 w A xss) (hl : xss.length ≤ 1000) (hs : ∀ xs ∈ xss, xs.length ≤ 1000) :
    Calls Try.prog 74 #[.int .i64 who, .slice A xss.length cap] w fun e w' => ∃ bc ps subv afv A' cap' vg', e = .returned (.pointer (some ⟨bc, 0, none⟩)) ∧ IsPar w' w.heap.size bc who subv afv A' cap' ((nextP ps []).2.1.map (·.1)) vg' (nextP ps []).2.2 ∧ SubOk w' bc (nextP ps []).1 subv afv ∧ AreParts w' w.heap.size ps ∧ ps.map (·.2) = xss.map (newS who) ∧ (∀ p ∈ ps, p.1 ≠ bc) ∧ (ps.map (·.1)).Nodup ∧ NewRow w (.slice none 0 0) vg' ∧ Bw w w' := by
  have HB := Aside0.mk (Bw.refl w)
  have HX := Aside0.mk hx
  have HS := Aside0.mk hs
  clear hx hs
  go_enter Try.func74, Try.ntmps74
  go_wp2_with fail
  go_loopw [12] (fun iv wr => ∃ (k : Nat) (vp : Value) (ps : List Part), k ≤ xss.length ∧ iv = .int .i64 k ∧ Aside0 (PartsAt w wr who w.heap.size vp ps (xss.take k))) (fun iv _ => xss.length - (intOf iv).toNat)
  case atStart =>
    refine ⟨0, .slice none 0 0, [], by omega, rfl, ⟨Nat.le_refl _, Blk.new w _ _, own_nil _ _ _ _, fun p hp => by simp at hp, by simp, fun p hp => by simp at hp, by simp, fun _ => rfl, HB.out.alloc _⟩⟩
  case round =>
    obtain ⟨k, vp, ps, hk, rfl, HP⟩ := hrel
    by_cases hlt : k < xss.length
    · obtain ⟨xs, hxs⟩ : ∃ xs, xss[k]? = some xs := ⟨_, List.getElem?_eq_getElem hlt⟩
      obtain ⟨ad, B, c, rfl, hck, hR⟩ := (HX.out.bw HP.out.bw).at_ k xs hxs
      have HR := Aside0.mk hR
      have HXS := Aside0.mk hxs
      have hlen := HS.out xs (List.mem_of_getElem? hxs)
      have hpl : ps.length = k := by have := congrArg List.length HP.out.ss; simp at this; omega
      obtain ⟨VA, vc, hvp⟩ := own_slice HP.out.row
      rw [hpl] at hvp
      have HPL := Aside0.mk hpl
      have HVP := Aside0.mk hvp
      obtain ⟨i0, hi, hzz⟩ := Option.map_eq_some_iff.1 infoCh
      simp only [Prod.mk.injEq] at hzz
      obtain ⟨hz, hs1, hb1⟩ := hzz
      have HI := Aside0.mk hi
      have HZ := Aside0.mk hz
      have HS1 := Aside0.mk hs1
      have HB1 := Aside0.mk hb1
      have k10 : wr.cell? ⟨w.heap.size, 10, none⟩ = some (.slice VA k vc) := by rw [← hvp]; exact HP.out.blk.cell 10 _ rfl
      have f10 := HP.out.blk.free 10
      have hbl := HP.out.blk.lt
      have h63 : k + 1 ≤ maxLen := by unfold maxLen; omega
      clear hxs hR hpl hvp hi hz hs1 hb1
      go_wp2_with fail
      go_region_law (first | (go_simp; go_at_call 66; refine (flowNew_calls who B c xs _ (HR.out.bw (Bw.refl wr).drew) (by omega)).mono ?_; rintro e w5 ⟨bn, tvn, An, cn, rfl, hch, hb5⟩; have k10 := hb5.kept k10; have k10a := Bw.kept ((Bw.refl w5).alloc (.cells #[.pointer (some ⟨bn, 0, none⟩)] 115)) k10; have HCH := Aside0.mk hch; have HB5 := Aside0.mk (show Bw wr w5 from ((Bw.refl wr).drew).trans hb5); obtain ⟨g, cap2, w6, hrun, hown6, hg6, hor⟩ := run_append_ptr (w5.alloc (.cells #[.pointer (some ⟨bn, 0, none⟩)] 115)) w.heap.size (ps.map (·.1)) vp bn 183 ⟨w5.heap.size, 0, none⟩ 1 (by rw [List.length_map]; exact pw_own_below HP.out.row (HB5.out.alloc _)) (World.news_of_block (cs := #[.pointer (some ⟨bn, 0, none⟩)]) (Blk.new w5 _ _)) (by rw [List.length_map, HPL.out]; omega) (by have := HP.out.bw.size; have := HB5.out.size; simp; omega); rw [List.length_map] at hrun hown6; have hq10 := Nat.lt_of_lt_of_le hbl HB5.out.size; have HN := Aside0.mk (HP.out.push (xs := xs) HB5.out HCH.out hown6 hg6 hor); rw [HPL.out, HVP.out] at hrun; have HRUN := Aside0.mk hrun; have HT6 := Aside0.mk hown6; rw [HPL.out] at HN; clear hch hb5 hrun hown6 hg6 hor; dsimp only) | (refine step_append_run _ rfl (.tmp 20) (.tmp 24) 183 (by rfl) (.slice VA k vc) (.slice (some ⟨w5.heap.size, 0, none⟩) 1 1) (.slice (some ⟨g, 0, none⟩) (k + 1) cap2) w6 (by rfl) (by rfl) HRUN.out ?_; have hB6 := HN.out.1; rw [HVP.out] at hB6; have k10 := hB6.cell 10 _ rfl; have f10 := hB6.free 10; have hbl := hB6.lt; clear hB6))
      all_goals go_wp2_with fail
      all_goals go_roundw
      all_goals first
        | (case rel =>
            have e1 : xss.take (k + 1) = xss.take k ++ [xs] := by rw [List.take_add_one, HXS.out]; rfl
            exact ⟨k + 1, _, _, by omega, by go_num, ⟨by rw [e1]; exact HN.out.2⟩⟩)
        | (case measure => simp [intOf]; omega)
    · obtain rfl : k = xss.length := by omega
      have hp := HP.out
      rw [List.take_length] at hp
      have HP := Aside0.mk hp
      have hpl : ps.length ≤ 1000 := by have := congrArg List.length hp.ss; simp at this; omega
      obtain ⟨VA, vc, hvp⟩ := own_slice hp.row
      have HVP := Aside0.mk hvp
      have k0 := hp.blk.cell 0 _ rfl
      have f0 := hp.blk.free 0
      clear hp hvp
      go_wp2_with fail
      refine (flowOf_calls w.heap.size who _ _ k0 f0).mono ?_
      rintro e w7 ⟨rfl, hw7⟩
      have C7 : Chg (fun j => j = w.heap.size) wr w7 := by rw [← hw7]; exact (Chg.refl (fun j => j = w.heap.size) wr).setb (k := w.heap.size) (i := 0) rfl _
      have hI : IsPar w7 w.heap.size w.heap.size who Value.nilIface Value.nilFunc VA vc (ps.map (·.1)) (.slice none 0 0) [] := by
        have hne : some w.heap.size ≠ vp.ownBlock := own_ne (t := 185) HP.out.row HP.out.blk (by decide)
        have hrow7 : w7.ownsRow w.heap.size 115 1 vp ps.length (ptrRow (ps.map (·.1))) := by rw [← hw7]; exact own_setCell (p := ⟨w.heap.size, 0, none⟩) HP.out.row hne _
        refine ⟨Nat.le_refl _, ?_, ?_, own_nil _ _ _ _⟩
        · have := HP.out.blk.set 0 (.int .i64 who)
          rw [hw7] at this
          rw [HVP.out] at this
          simpa [parCells] using this
        · rw [HVP.out] at hrow7
          rcases hrow7.2 with ⟨e, e2⟩ | ⟨g, cap, cur, e, h1, h2, h3, h4, h5, h6⟩
          · injection e with e1 _ e3
            have hn : ps = [] := List.length_eq_zero_iff.1 e2
            refine ⟨by rw [hn]; simp, by omega, fun h => absurd (by rw [hn]; rfl) h⟩
          · injection e with e1 _ e3
            refine ⟨by rw [List.length_map]; omega, by simp only [maxLen] at h4; omega, fun _ => ⟨g, w.heap.size, vc, 0, ps.map (·.1), e1, ?_, rfl⟩⟩
            rw [List.length_map, ← e1]
            exact hrow7
      have HI := Aside0.mk hI
      have HA7 := Aside0.mk (HP.out.are.chg C7 (OnlyT.blk HP.out.blk) HP.out.ne)
      have HB7 := Aside0.mk (C7.below HP.out.bw (fun i e => by rw [e]; exact Nat.le_refl _))
      clear hI C7 hw7 k0 f0
      go_wp2_with fail
      refine (nextPart_calls ps VA vc [] w7 HI.out HA7.out HP.out.ne).mono ?_
      rintro e w8 ⟨rfl, hn⟩
      have HNX := Aside0.mk hn
      clear hn
      go_wp2_with fail
      go_ret
      obtain ⟨sv, av, A8, c8, vg8, hI8, hS8, hC8, hN8⟩ := HNX.out
      have hge : ∀ i, ParF w.heap.size (.slice none 0 0) i → w.heap.size ≤ i := fun i hi => by
        rcases hi with rfl | hi
        · exact Nat.le_refl _
        · simp [Value.ownBlock] at hi
      have honly := HI.out.only
      refine ⟨w.heap.size, ps, sv, av, A8, c8, vg8, rfl, hI8, hS8, ?_, HP.out.ss, HP.out.ne, HP.out.nd, ?_, hC8.below HB7.out hge⟩
      · refine HA7.out.chg hC8 honly fun q hq hi => ?_
        rcases hi with hi | hi
        · exact HP.out.ne q hq hi
        · simp [Value.ownBlock] at hi
      · rcases hN8 with e | ⟨j, e, hj⟩
        · exact .inl e
        · exact .inr ⟨j, e, Nat.le_trans HB7.out.size hj⟩
end
end Go.Proofs.Ytclippikdfcgkaa.M
