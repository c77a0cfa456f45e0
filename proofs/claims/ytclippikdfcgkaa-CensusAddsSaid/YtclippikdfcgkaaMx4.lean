/- Package census: put. Conditions: no more than a million events. -/
import Derived.Test.YtclippikdfcgkaaMx3
import Derived.Deep.RegionHeld3
namespace Go.Proofs.Ytclippikdfcgkaa.M
open Go.RowKit Go.Proofs.YtclippikdfcgkaaW.PrintWords Go.Proofs.YtclippikdfcgkaaW.PrintLast Go.Proofs.YtclippikdfcgkaaW.PrintMore
attribute [local go_sem] max2_int max_two
set_option linter.unusedVariables false
set_option linter.unusedSimpArgs false
section
variable {w w1 : World} {base b g1 c1 g2 c2 n m : Nat} {fK fg fP : Int → Int} {most now : Int}
theorem normK_range (k : Int) : 0 ≤ normK k ∧ normK k < 12 := by unfold normK; split <;> omega
theorem cK_snoc (es : List Ev) (e : Ev) (k : Int) : cK (es ++ [e]) k = cK es k + if normK e.kind = k then 1 else 0 := by
  unfold cK
  rw [cB_snoc, isK_eq]

theorem cP_none (es : List Ev) (e : Ev) (hk : e.kind ≠ 1 ∧ e.kind ≠ 9) (p : Int) : cP (es ++ [e]) p = cP es p := by
  unfold cP
  rw [cB_snoc]
  have : isP p e = false := by unfold isP; simp [hk.1, hk.2]
  rw [this]
  simp
theorem fG_none (es : List Ev) (e : Ev) (hk : e.kind ≠ 1 ∧ e.kind ≠ 9 ∧ e.kind ≠ 2) (j : Int) : fG (es ++ [e]) j = fG es j := by
  unfold fG cO
  rw [cB_snoc]
  have : isO (if j % 3 = 0 then 1 else if j % 3 = 1 then 9 else 2) (j / 3) e = false := by
    unfold isO
    by_cases h0 : j % 3 = 0
    · simp [h0, hk.1]
    · by_cases h1 : j % 3 = 1
      · simp [h1, hk.2.1]
      · simp [h0, h1, hk.2.2]
  rw [this]
  simp
theorem fG_spawn (es : List Ev) (e : Ev) (hk : e.kind = 2) (j : Int) (hj : 0 ≤ j) : fG (es ++ [e]) j = fG es j + if j = 3 * e.other + 2 then 1 else 0 := by
  unfold fG cO
  rw [cB_snoc]
  congr 1
  have key : isO (if j % 3 = 0 then 1 else if j % 3 = 1 then 9 else 2) (j / 3) e = decide (j = 3 * e.other + 2) := by
    unfold isO
    apply Bool.eq_iff_iff.2
    rw [hk]
    by_cases h0 : j % 3 = 0
    · simp [h0]
      omega
    · by_cases h1 : j % 3 = 1
      · simp [h1]
        omega
      · simp [h0, h1]
        omega
  rw [key]
  by_cases h : j = 3 * e.other + 2 <;> simp [h]

/-- A store to a census's Kinds. -/
theorem IsCen.kind (h : IsCen w base b g1 c1 g2 c2 n m fK fg fP most now) (k : Nat) (hk : k < 12) (fK' : Int → Int) (hf : ∀ j : Nat, j < 12 → j ≠ k → fK' j = fK j) : IsCen (w.setCell ⟨b, k, none⟩ (.int .i64 (fK' k))) base b g1 c1 g2 c2 n m fK' fg fP most now := by
  have n1 : some b ≠ (Value.slice (some ⟨g1, 0, none⟩) n c1).ownBlock := own_ne h.gs h.blk (by decide)
  have n2 : some b ≠ (Value.slice (some ⟨g2, 0, none⟩) m c2).ownBlock := own_ne h.ps h.blk (by decide)
  refine ⟨h.le, ?_, own_setCell h.gs n1 _, own_setCell h.ps n2 _⟩
  have := h.blk.set k (.int .i64 (fK' k))
  have e : (cenC fK (.slice (some ⟨g1, 0, none⟩) n c1) (.slice (some ⟨g2, 0, none⟩) m c2) most now).setIfInBounds k (.int .i64 (fK' k)) = cenC fK' (.slice (some ⟨g1, 0, none⟩) n c1) (.slice (some ⟨g2, 0, none⟩) m c2) most now := by
    unfold cenC
    rw [List.setIfInBounds_toArray, List.set_append_left _ _ (by rw [tabV_len]; exact hk), ← tabV_set 12 fK fK' k hf]
  rw [e] at this
  exact this
theorem IsCen.setNow (h : IsCen w base b g1 c1 g2 c2 n m fK fg fP most now) (x : Int) : IsCen (w.setCell ⟨b, 15, none⟩ (.int .i64 x)) base b g1 c1 g2 c2 n m fK fg fP most x := by
  have n1 : some b ≠ (Value.slice (some ⟨g1, 0, none⟩) n c1).ownBlock := own_ne h.gs h.blk (by decide)
  have n2 : some b ≠ (Value.slice (some ⟨g2, 0, none⟩) m c2).ownBlock := own_ne h.ps h.blk (by decide)
  refine ⟨h.le, ?_, own_setCell h.gs n1 _, own_setCell h.ps n2 _⟩
  have := h.blk.set 15 (.int .i64 x)
  have e : (cenC fK (.slice (some ⟨g1, 0, none⟩) n c1) (.slice (some ⟨g2, 0, none⟩) m c2) most now).setIfInBounds 15 (.int .i64 x) = cenC fK (.slice (some ⟨g1, 0, none⟩) n c1) (.slice (some ⟨g2, 0, none⟩) m c2) most x := by
    unfold cenC
    rw [List.setIfInBounds_toArray, List.set_append_right _ _ (by rw [tabV_len]; omega), tabV_len]
    rfl
  rw [e] at this
  exact this
theorem IsCen.setMost (h : IsCen w base b g1 c1 g2 c2 n m fK fg fP most now) (x : Int) : IsCen (w.setCell ⟨b, 14, none⟩ (.int .i64 x)) base b g1 c1 g2 c2 n m fK fg fP x now := by
  have n1 : some b ≠ (Value.slice (some ⟨g1, 0, none⟩) n c1).ownBlock := own_ne h.gs h.blk (by decide)
  have n2 : some b ≠ (Value.slice (some ⟨g2, 0, none⟩) m c2).ownBlock := own_ne h.ps h.blk (by decide)
  refine ⟨h.le, ?_, own_setCell h.gs n1 _, own_setCell h.ps n2 _⟩
  have := h.blk.set 14 (.int .i64 x)
  have e : (cenC fK (.slice (some ⟨g1, 0, none⟩) n c1) (.slice (some ⟨g2, 0, none⟩) m c2) most now).setIfInBounds 14 (.int .i64 x) = cenC fK (.slice (some ⟨g1, 0, none⟩) n c1) (.slice (some ⟨g2, 0, none⟩) m c2) x now := by
    unfold cenC
    rw [List.setIfInBounds_toArray, List.set_append_right _ _ (by rw [tabV_len]; omega), tabV_len]
    rfl
  rw [e] at this
  exact this

set_option maxHeartbeats 2000000 in
theorem put_calls (es : List Ev) (e : Ev) (hl : es.length ≤ 1000000) (h : IsCen w base b g1 c1 g2 c2 n m (cK es) (fG es) (cP es) (cMost es) (cNow es)) :
    Calls Try.prog 85 #[.pointer (some ⟨b, 0, none⟩), .agg (evC e)] w fun r w' => r = .returned (.tuple #[]) ∧ IsCen w' base b g1 c1 g2 c2 n m (cK (es ++ [e])) (fG (es ++ [e])) (cP (es ++ [e])) (cMost (es ++ [e])) (cNow (es ++ [e])) ∧ Chg (CenF b g1 g2) w w' := by
  have H := Aside0.mk h
  clear h
  unfold evC
  go_enter Try.func85, Try.ntmps85
  go_upto_region 2 with fail
  obtain ⟨W1, hW1⟩ : ∃ W1, W1 = w.alloc (.cells #[.int .i64 e.kind, .int .i64 e.g, .int .i64 e.other, .int .i64 e.thread, .int .i64 e.proc] 38) := ⟨_, rfl⟩
  have L1 : Blk W1 w.heap.size #[.int .i64 e.kind, .int .i64 e.g, .int .i64 e.other, .int .i64 e.thread, .int .i64 e.proc] 38 := by rw [hW1]; exact Blk.new w _ _
  have H1 := Aside0.mk (show IsCen W1 base b g1 c1 g2 c2 n m (cK es) (fG es) (cP es) (cMost es) (cNow es) by rw [hW1]; exact H.out.bw ((Bw.refl w).alloc _))
  have C1 := Aside0.mk (show Chg (CenF b g1 g2) w W1 by rw [hW1]; exact (Chg.refl _ _).alloc _)
  rw [← hW1]
  clear hW1
  go_cut [13] from 8 to 13 (fun v wx => ∃ B : Bool, v = .bool B ∧ Aside0 (B = true ↔ (e.kind < 1 ∨ 12 ≤ e.kind)) ∧ wx = W1)
  case first =>
    by_cases hk : e.kind < 1
    · have d1 : decide (e.kind < 1) = true := by simpa using hk
      have HK := Aside0.mk hk
      clear hk
      go_wp2_with fail
      all_goals go_meet
      all_goals (case rel => exact ⟨_, rfl, ⟨by simp [HK.out]⟩, rfl⟩)
    · have d1 : decide (e.kind < 1) = false := by simpa using hk
      have HK := Aside0.mk hk
      clear hk
      go_wp2_with fail
      all_goals go_meet
      all_goals (case rel => exact ⟨_, rfl, ⟨by have := HK.out; simp; omega⟩, rfl⟩)
  case rest =>
    obtain ⟨B, rfl, HBB, rfl⟩ := hcut
    go_upto_if 13 with fail
    go_cut [4] from 8 to 12 (fun v wx => v = .int .i64 (normK e.kind) ∧ wx = wc)
    case first =>
      cases B
      · have hn := Aside0.mk (show normK e.kind = e.kind by
          have := HBB.out
          simp at this
          unfold normK
          rw [if_neg (by omega)])
        go_wp2_with fail
        go_meet
        case rel => exact ⟨by rw [hn.out], rfl⟩
      · have hn := Aside0.mk (show normK e.kind = 0 by unfold normK; rw [if_pos (HBB.out.1 rfl)])
        go_wp2_with fail
        go_meet
        case rel => exact ⟨by rw [hn.out], rfl⟩
    case rest =>
      obtain ⟨rfl, rfl⟩ := hcut
      obtain ⟨q, hq⟩ := Int.eq_ofNat_of_zero_le (normK_range e.kind).1
      have hq12 : q < 12 := by have := (normK_range e.kind).2; omega
      rw [hq]
      have HQ := Aside0.mk hq
      clear hq HBB
      go_upto_region 4 with fail
      go_cut [] from 14 to 23 (fun wx => Aside0 (Blk wx w.heap.size #[.int .i64 e.kind, .int .i64 e.g, .int .i64 e.other, .int .i64 e.thread, .int .i64 e.proc] 38) ∧ Aside0 (IsCen wx base b g1 c1 g2 c2 n m (cK (es ++ [e])) (fG es) (cP es) (cMost es) (cNow es)) ∧ Aside0 (Chg (CenF b g1 g2) w wx))
      case first =>
        have cc := H1.out.blk.cell q _ (cenC_kind _ _ _ _ _ q hq12)
        have fr := H1.out.blk.free q
        have hbl := H1.out.blk.lt
        have hw : wrap64 (cK es q + 1) = cK es q + 1 := by
          have := cB_range es (isK q)
          unfold wrap64 cK
          omega
        go_wp2_with fail
        go_region
        rw [hw]
        go_wp2_with fail
        go_meet
        case rel =>
          have n1 : b ≠ w.heap.size := by
            intro h
            have := H1.out.blk
            rw [h] at this
            have := this.symm.trans L1
            injection this with this
            injection this with _ this
            exact absurd this (by decide)
          have hk := H1.out.kind q hq12 (cK (es ++ [e])) (fun j hj hne => by rw [cK_snoc, HQ.out, if_neg (by omega)]; omega)
          rw [cK_snoc, HQ.out, if_pos rfl] at hk
          exact ⟨⟨L1.other _ _ n1⟩, ⟨hk.bw (Bw.refl _).drew⟩, ⟨(C1.out.setb (.inl rfl) _).drew⟩⟩
      case rest =>
        obtain ⟨L2, H2, C2⟩ := hcut
        go_upto_block 0 with fail
        go_cut [5] from 25 to 45 (fun v wx => Aside0 (IsCen wx base b g1 c1 g2 c2 n m (cK (es ++ [e])) (fG (es ++ [e])) (cP (es ++ [e])) (cMost es) (cNow es)) ∧ Aside0 (Chg (CenF b g1 g2) w wx))
        case first =>
          have e0 := L2.out.cell 0 (.int .i64 e.kind) rfl
          have e1 := L2.out.cell 1 (.int .i64 e.g) rfl
          have e2 := L2.out.cell 2 (.int .i64 e.other) rfl
          have e3 := L2.out.cell 3 (.int .i64 e.thread) rfl
          have e4 := L2.out.cell 4 (.int .i64 e.proc) rfl
          by_cases h19 : q = 1 ∨ q = 9
          · have hk : e.kind = 1 ∨ e.kind = 9 := by
              have := HQ.out
              unfold normK at this
              split at this <;> omega
            have HK := Aside0.mk hk
            clear hk
            rcases h19 with rfl | rfl
            · go_wp2_with fail
              refine (begins_calls es e HK.out hl H2.out).mono ?_
              rintro r w3 ⟨rfl, hc3, hg3⟩
              have HC3 := Aside0.mk hc3
              have C3 := Aside0.mk (C2.out.trans hg3)
              clear hc3 hg3
              go_wp2_with fail
              go_meet
              case rel => exact ⟨HC3, C3⟩
            · go_wp2_with fail
              refine (begins_calls es e HK.out hl H2.out).mono ?_
              rintro r w3 ⟨rfl, hc3, hg3⟩
              have HC3 := Aside0.mk hc3
              have C3 := Aside0.mk (C2.out.trans hg3)
              clear hc3 hg3
              go_wp2_with fail
              go_meet
              case rel => exact ⟨HC3, C3⟩
          · by_cases h2 : q = 2
            · subst h2
              have hk := Aside0.mk (show e.kind = 2 by
                have := HQ.out
                unfold normK at this
                split at this <;> omega)
              have HGR := Aside0.mk (fG_spawn es e hk.out)
              have HPS := Aside0.mk (cP_none es e ⟨by rw [hk.out]; omega, by rw [hk.out]; omega⟩)
              clear h19 e0 e1 e3 e4
              by_cases hg : 0 ≤ e.other ∧ e.other < n
              · obtain ⟨gn, hgn⟩ : ∃ gn : Nat, gn = e.other.toNat := ⟨_, rfl⟩
                have hgl : gn < n := by omega
                have HGN := Aside0.mk (show e.other = (gn : Int) by omega)
                rw [HGN.out] at HGR
                clear e2 hgn hg
                have e2 : wc.cell? ⟨w.heap.size, 2, none⟩ = some (.int .i64 (gn : Int)) := by rw [← HGN.out]; exact L2.out.cell 2 _ rfl
                go_wp2_with fail
                refine (row_some gn H2.out hgl).mono ?_
                rintro r w4 ⟨rfl, hb4⟩
                have H4 := Aside0.mk (H2.out.bw hb4)
                have C4 := Aside0.mk (C2.out.trans (Chg.of_bw hb4))
                have cc := own_cellj H4.out.gs (gn * 3 + 2) _ (tabV_get (n * 3) (fG es) (gn * 3 + 2) (by omega))
                have fr := own_free H4.out.gs (gn * 3 + 2)
                obtain ⟨x, hx⟩ : ∃ x, x = fG es ((gn * 3 + 2 : Nat) : Int) := ⟨_, rfl⟩
                rw [← hx] at cc
                have hxr : 0 ≤ x ∧ x ≤ 1000000 := by
                  rw [hx]
                  have := cB_range es (isO (if ((gn * 3 + 2 : Nat) : Int) % 3 = 0 then 1 else if ((gn * 3 + 2 : Nat) : Int) % 3 = 1 then 9 else 2) (((gn * 3 + 2 : Nat) : Int) / 3))
                  unfold fG cO
                  omega
                have hw : wrap64 (x + 1) = x + 1 := by unfold wrap64; omega
                have hg4 : g1 < w4.heap.size := own_lt H4.out.gs g1 rfl
                have HX := Aside0.mk hx
                clear hx hb4
                go_wp2_with fail
                go_meet
                case rel =>
                  have n2 : g1 ≠ b := by
                    have := own_ne H4.out.gs H4.out.blk (by decide)
                    intro q
                    exact this (by rw [← q]; rfl)
                  have hn := ne_types H4.out.gs H4.out.ps (by decide)
                  refine ⟨⟨H4.out.le, H4.out.blk.other _ _ n2, ?_, ?_⟩, ⟨C4.out.setb (.inr (.inl rfl)) _⟩⟩
                  · have := own_setj H4.out.gs (gn * 3 + 2) (.int .i64 (x + 1)) (by omega)
                    rw [tabV_set (n * 3) (fG es) (fG (es ++ [e])) (gn * 3 + 2) (fun j hj hne => by rw [HGR.out j (by omega), if_neg (by omega)]; omega), HGR.out _ (by omega), if_pos (by omega), ← HX.out]
                    exact this
                  · rw [tabV_same m (cP es) (cP (es ++ [e])) (fun j hj => HPS.out j)]
                    exact own_setCell (p := ⟨g1, gn * 3 + 2, none⟩) H4.out.ps (fun q => hn g1 rfl q.symm) _
              · go_wp2_with fail
                refine (row_none e.other H2.out (by omega)).mono ?_
                rintro r w4 ⟨rfl, hb4⟩
                have H4 := Aside0.mk (H2.out.bw hb4)
                have C4 := Aside0.mk (C2.out.trans (Chg.of_bw hb4))
                go_wp2_with fail
                go_meet
                case rel =>
                  refine ⟨⟨H4.out.le, H4.out.blk, ?_, ?_⟩, C4⟩
                  · rw [tabV_same (n * 3) (fG es) (fG (es ++ [e])) (fun j hj => by rw [HGR.out j (by omega), if_neg (by omega)]; omega)]
                    exact H4.out.gs
                  · rw [tabV_same m (cP es) (cP (es ++ [e])) (fun j hj => HPS.out j)]
                    exact H4.out.ps
            · have z1 : ((q : Int) == 1) = false := by simp; omega
              have z9 : ((q : Int) == 9) = false := by simp; omega
              have z2 : ((q : Int) == 2) = false := by simp; omega
              have hne := Aside0.mk (show e.kind ≠ 1 ∧ e.kind ≠ 9 ∧ e.kind ≠ 2 by
                have := HQ.out
                unfold normK at this
                split at this <;> omega)
              clear h19 h2
              go_wp2_with fail
              go_meet
              case rel =>
                refine ⟨⟨H2.out.le, H2.out.blk, ?_, ?_⟩, C2⟩
                · rw [tabV_same (n * 3) (fG es) (fG (es ++ [e])) (fun j hj => fG_none es e hne.out j)]
                  exact H2.out.gs
                · rw [tabV_same m (cP es) (cP (es ++ [e])) (fun j hj => cP_none es e ⟨hne.out.1, hne.out.2.1⟩ j)]
                  exact H2.out.ps
        case rest =>
          obtain ⟨H3, C3⟩ := hcut
          have HNS := Aside0.mk (cNow_snoc es e)
          have HMS := Aside0.mk (cMost_snoc es e)
          rw [HQ.out] at HNS
          have hnr := cNow_range es
          have hnr2 := cNow_range (es ++ [e])
          rw [List.length_append, List.length_singleton] at hnr2
          have hmr := cMost_range es
          have hmo : -1 ≤ moreK (q : Int) ∧ moreK (q : Int) ≤ 1 := by unfold moreK; (repeat' split) <;> omega
          go_upto_region 13 with fail
          go_cut [] from 46 to 54 (fun wx => Aside0 (IsCen wx base b g1 c1 g2 c2 n m (cK (es ++ [e])) (fG (es ++ [e])) (cP (es ++ [e])) (cMost es) (cNow (es ++ [e]))) ∧ Aside0 (Chg (CenF b g1 g2) w wx))
          case first =>
            have k15 := H3.out.cn
            have f15 := H3.out.blk.free 15
            have hbl := H3.out.blk.lt
            have hw2 := show IntKind.i64.wrap (cNow es + moreK (q : Int)) = cNow es + moreK (q : Int) by rw [i64_wrap]; omega
            go_wp2_with fail
            go_region_with (go_at_call 132; refine (more_calls (q : Int) _).mono ?_; rintro r W5 ⟨rfl, hb5'⟩; have hb5 := (Bw.refl wc).drew.trans hb5'; have j0 := hb5.kept (a := ⟨b, 15, none⟩) k15; have H5 := Aside0.mk (H3.out.bw hb5); have f5 := H5.out.blk.free 15; have hbl5 := H5.out.blk.lt)
            all_goals (go_wp2_with fail; go_meet)
            all_goals (case rel =>
              have := H5.out.setNow (cNow es + moreK (q : Int))
              rw [HNS.out]
              exact ⟨⟨this⟩, ⟨(C3.out.trans (Chg.of_bw hb5)).setb (.inl rfl) _⟩⟩)
          case rest =>
            obtain ⟨H6, C6⟩ := hcut
            have k14 := H6.out.cm
            have k15 := H6.out.cn
            have f14 := H6.out.blk.free 14
            have hbl := H6.out.blk.lt
            go_wp2_with fail
            go_region
            all_goals go_wp2_with fail
            all_goals go_end0
            all_goals rw [HMS.out]
            · rw [show maxI (cMost es) (cNow (es ++ [e])) = cNow (es ++ [e]) by unfold maxI; rw [if_pos h]]
              exact ⟨rfl, (H6.out.setMost _).bw (Bw.refl _).drew, (C6.out.setb (.inl rfl) _).drew⟩
            · rw [show maxI (cMost es) (cNow (es ++ [e])) = cMost es by unfold maxI; rw [if_neg (by omega)]]
              exact ⟨rfl, (H6.out.setMost _).bw (Bw.refl _).drew, (C6.out.setb (.inl rfl) _).drew⟩
end
end Go.Proofs.Ytclippikdfcgkaa.M
