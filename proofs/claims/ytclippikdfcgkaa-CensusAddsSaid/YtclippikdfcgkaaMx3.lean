/- Package census: begins and put. Conditions: counters below 2^62. -/
import Derived.Test.YtclippikdfcgkaaMx2
import Derived.Deep.CutRange
namespace Go.Proofs.Ytclippikdfcgkaa.M
open Go.RowKit Go.Proofs.YtclippikdfcgkaaW.PrintWords Go.Proofs.YtclippikdfcgkaaW.PrintLast Go.Proofs.YtclippikdfcgkaaW.PrintMore
attribute [local go_sem] max2_int max_two
set_option linter.unusedVariables false
set_option linter.unusedSimpArgs false
section
variable {w w1 : World} {base b g1 c1 g2 c2 n m : Nat} {fK fg fP : Int → Int} {most now : Int}
def evC (e : Ev) : Array Value := #[.int .i64 e.kind, .int .i64 e.g, .int .i64 e.other, .int .i64 e.thread, .int .i64 e.proc]
theorem cP_begin (es : List Ev) (e : Ev) (hk : e.kind = 1 ∨ e.kind = 9) (p : Int) : cP (es ++ [e]) p = cP es p + if e.proc = p then 1 else 0 := by
  unfold cP
  rw [cB_snoc]
  congr 1
  have : isP p e = (e.proc == p) := by
    unfold isP
    rcases hk with hk | hk <;> simp [hk]
  rw [this]
  by_cases h : e.proc = p <;> simp [h]
theorem fG_begin (es : List Ev) (e : Ev) (hk : e.kind = 1 ∨ e.kind = 9) (j : Int) (hj : 0 ≤ j) : fG (es ++ [e]) j = fG es j + if j = 3 * e.g + (if e.kind = 1 then 0 else 1) then 1 else 0 := by
  unfold fG cO
  rw [cB_snoc]
  congr 1
  have key : isO (if j % 3 = 0 then 1 else if j % 3 = 1 then 9 else 2) (j / 3) e = decide (j = 3 * e.g + (if e.kind = 1 then 0 else 1)) := by
    unfold isO
    apply Bool.eq_iff_iff.2
    rcases hk with hk | hk
    · rw [hk]
      by_cases h0 : j % 3 = 0
      · simp [h0]
        omega
      · by_cases h1 : j % 3 = 1
        · simp [h1]
          omega
        · simp [h0, h1]
          omega
    · rw [hk]
      by_cases h0 : j % 3 = 0
      · simp [h0]
        omega
      · by_cases h1 : j % 3 = 1
        · simp [h1]
          omega
        · simp [h0, h1]
          omega
  rw [key]
  by_cases h : j = 3 * e.g + (if e.kind = 1 then 0 else 1) <;> simp [h]
set_option maxHeartbeats 2000000 in
theorem begins_calls (es : List Ev) (e : Ev) (hk : e.kind = 1 ∨ e.kind = 9) (hl : es.length ≤ 1000000) (h : IsCen w base b g1 c1 g2 c2 n m fK (fG es) (cP es) most now) :
    Calls Try.prog 130 #[.pointer (some ⟨b, 0, none⟩), .agg (evC e)] w fun r w' => r = .returned (.tuple #[]) ∧ IsCen w' base b g1 c1 g2 c2 n m fK (fG (es ++ [e])) (cP (es ++ [e])) most now ∧ Chg (CenF b g1 g2) w w' := by
  have HCR := Aside0.mk (cP_begin es e hk)
  have H := Aside0.mk h
  have hm : m ≤ 9223372036854775807 := own_len h.ps
  clear h
  unfold evC
  go_enter Try.func130, Try.ntmps130
  go_upto_if 17 with fail
  obtain ⟨W1, hW1⟩ : ∃ W1, W1 = w.alloc (.cells #[.int .i64 e.kind, .int .i64 e.g, .int .i64 e.other, .int .i64 e.thread, .int .i64 e.proc] 38) := ⟨_, rfl⟩
  have L1 : Blk W1 w.heap.size #[.int .i64 e.kind, .int .i64 e.g, .int .i64 e.other, .int .i64 e.thread, .int .i64 e.proc] 38 := by rw [hW1]; exact Blk.new w _ _
  have H1 := Aside0.mk (show IsCen W1 base b g1 c1 g2 c2 n m fK (fG es) (cP es) most now by rw [hW1]; exact H.out.bw ((Bw.refl w).alloc _))
  have C1 := Aside0.mk (show Chg (CenF b g1 g2) w W1 by rw [hW1]; exact (Chg.refl _ _).alloc _)
  rw [← hW1]
  clear hW1
  go_cut [17] from 5 to 17 (fun v wx => ∃ B : Bool, v = .bool B ∧ Aside0 (B = true ↔ 0 ≤ e.proc ∧ e.proc < m) ∧ Aside0 (Bw W1 wx))
  case first =>
    have cp' : ∀ p : BwW W1, p.W.cell? ⟨b, 13, none⟩ = some (.slice (some ⟨g2, 0, none⟩) m c2) := fun p => p.cell H1.out.cp
    have e4' : ∀ p : BwW W1, p.W.cell? ⟨w.heap.size, 4, none⟩ = some (.int .i64 e.proc) := fun p => p.cell (L1.cell 4 _ rfl)
    by_cases hp : 0 ≤ e.proc
    · have d1 : decide (0 ≤ e.proc) = true := by simpa using hp
      have HP := Aside0.mk hp
      clear hp
      refine wp_region_bw (by kernel_rfl) (by kernel_rfl) ?_
      repeat (first | go_big_quiet_skip | (go_big_quiet_want; go_big_quiet_op; first | go_big_quiet_on | go_big_quiet_call (fail)))
      refine wpQuiet_nil ?_
      rintro W2 ⟨⟨_, hb2⟩, rfl⟩
      go_wp2_with fail
      go_meet
      case rel => exact ⟨_, rfl, ⟨by simp [HP.out]⟩, ⟨hb2⟩⟩
    · have d1 : decide (0 ≤ e.proc) = false := by simpa using hp
      have HP := Aside0.mk hp
      clear hp
      refine wp_region_bw (by kernel_rfl) (by kernel_rfl) ?_
      repeat (first | go_big_quiet_skip | (go_big_quiet_want; go_big_quiet_op; first | go_big_quiet_on | go_big_quiet_call (fail)))
      refine wpQuiet_nil ?_
      rintro W2 ⟨⟨_, hb2⟩, rfl⟩
      go_wp2_with fail
      go_meet
      case rel => exact ⟨_, rfl, ⟨by have := HP.out; simp; omega⟩, ⟨hb2⟩⟩
  case rest =>
    obtain ⟨B, rfl, HBB, hb2⟩ := hcut
    have H2 := Aside0.mk (H1.out.bw hb2.out)
    have C2 := Aside0.mk (C1.out.trans (Chg.of_bw hb2.out))
    have L2 := L1.bw hb2.out
    go_upto_if 17 with fail
    go_cut [] from 18 to 27 (fun wx => Aside0 (Blk wx w.heap.size #[.int .i64 e.kind, .int .i64 e.g, .int .i64 e.other, .int .i64 e.thread, .int .i64 e.proc] 38) ∧ Aside0 (IsCen wx base b g1 c1 g2 c2 n m fK (fG es) (cP (es ++ [e])) most now) ∧ Aside0 (Chg (CenF b g1 g2) w wx))
    case first =>
      cases B
      · have hnot : ¬ (0 ≤ e.proc ∧ e.proc < m) := by
          have := HBB.out
          simp at this
          omega
        go_wp2_with fail
        go_meet
        case rel =>
          refine ⟨⟨L2⟩, ⟨H2.out.le, H2.out.blk, H2.out.gs, ?_⟩, C2⟩
          rw [tabV_same m (cP es) (cP (es ++ [e])) (fun j hj => by rw [HCR.out, if_neg (by omega)]; omega)]
          exact H2.out.ps
      · obtain ⟨p0, p1⟩ := HBB.out.1 rfl
        have HPM : Aside0 (e.proc.toNat < m) := ⟨by omega⟩
        have hpv := Aside0.mk (show ((e.proc.toNat : Nat) : Int) = e.proc by omega)
        have e4 := L2.cell 4 (.int .i64 e.proc) rfl
        have cp := H2.out.cp
        have cc := own_cellj H2.out.ps e.proc.toNat _ (tabV_get m (cP es) e.proc.toNat HPM.out)
        rw [hpv.out] at cc
        have hw : wrap64 (cP es e.proc + 1) = cP es e.proc + 1 := by
          have := cB_range es (isP e.proc)
          unfold wrap64 cP
          omega
        have fr := own_free H2.out.ps e.proc.toNat
        have hg2 : g2 < wc.heap.size := own_lt H2.out.ps g2 rfl
        go_wp2_with fail
        go_region
        rw [hw]
        go_wp2_with fail
        go_meet
        case rel =>
          have n1 : g2 ≠ w.heap.size := by
            have := own_ne H2.out.ps L2 (by decide)
            intro q
            exact this (by rw [← q]; rfl)
          have n2 : g2 ≠ b := by
            have := own_ne H2.out.ps H2.out.blk (by decide)
            intro q
            exact this (by rw [← q]; rfl)
          have hn := ne_types H2.out.ps H2.out.gs (by decide)
          refine ⟨⟨L2.other _ _ n1⟩, ⟨H2.out.le, H2.out.blk.other _ _ n2, own_setCell (p := ⟨g2, e.proc.toNat, none⟩) H2.out.gs (fun q => hn g2 rfl q.symm) _, ?_⟩, ⟨(C2.out.setb (.inr (.inr rfl)) _).drew⟩⟩
          have := own_setj H2.out.ps e.proc.toNat (.int .i64 (cP es e.proc + 1)) (by have := HPM.out; omega)
          rw [tabV_set m (cP es) (cP (es ++ [e])) e.proc.toNat (fun j hj hne => by rw [HCR.out, if_neg (by omega)]; omega), hpv.out, HCR.out, if_pos rfl]
          exact this
    case rest =>
      obtain ⟨L3, H3, C3⟩ := hcut
      have HGR := Aside0.mk (fG_begin es e hk)
      by_cases hg : 0 ≤ e.g ∧ e.g < n
      · obtain ⟨gn, hgn⟩ : ∃ gn : Nat, gn = e.g.toNat := ⟨_, rfl⟩
        have hgl : gn < n := by omega
        have HGN := Aside0.mk (show e.g = (gn : Int) by omega)
        rw [HGN.out] at HGR
        have e1 : wc.cell? ⟨w.heap.size, 1, none⟩ = some (.int .i64 (gn : Int)) := by rw [← HGN.out]; exact L3.out.cell 1 _ rfl
        clear hgn hg
        go_wp2_with fail
        refine (row_some gn H3.out hgl).mono ?_
        rintro r w4 ⟨rfl, hb4⟩
        have H4 := Aside0.mk (H3.out.bw hb4)
        have L4 := L3.out.bw hb4
        have C4 := Aside0.mk (C3.out.trans (Chg.of_bw hb4))
        by_cases hk1 : e.kind = 1
        · have e0 := L4.cell 0 (.int .i64 e.kind) rfl
          have dk : (e.kind == 1) = true := by simpa using hk1
          have cc := own_cellj H4.out.gs (gn * 3) _ (tabV_get (n * 3) (fG es) (gn * 3) (by omega))
          have fr := own_free H4.out.gs (gn * 3)
          obtain ⟨x, hx⟩ : ∃ x, x = fG es ((gn * 3 : Nat) : Int) := ⟨_, rfl⟩
          rw [← hx] at cc
          have hxr : 0 ≤ x ∧ x ≤ 1000000 := by
            rw [hx]
            have := cB_range es (isO (if ((gn * 3 : Nat) : Int) % 3 = 0 then 1 else if ((gn * 3 : Nat) : Int) % 3 = 1 then 9 else 2) (((gn * 3 : Nat) : Int) / 3))
            unfold fG cO
            omega
          have hw : wrap64 (x + 1) = x + 1 := by unfold wrap64; omega
          have hg4 : g1 < w4.heap.size := own_lt H4.out.gs g1 rfl
          have HX := Aside0.mk hx
          have HK1 := Aside0.mk hk1
          clear hx hk1 hb4
          go_wp2_with fail
          go_end0
          have n1 : g1 ≠ w.heap.size := by
            have := own_ne H4.out.gs L4 (by decide)
            intro q
            exact this (by rw [← q]; rfl)
          have n2 : g1 ≠ b := by
            have := own_ne H4.out.gs H4.out.blk (by decide)
            intro q
            exact this (by rw [← q]; rfl)
          have hn := ne_types H4.out.gs H4.out.ps (by decide)
          refine ⟨rfl, ⟨H4.out.le, H4.out.blk.other _ _ n2, ?_, own_setCell (p := ⟨g1, gn * 3, none⟩) H4.out.ps (fun q => hn g1 rfl q.symm) _⟩, C4.out.setb (.inr (.inl rfl)) _⟩
          have := own_setj H4.out.gs (gn * 3) (.int .i64 (x + 1)) (by omega)
          rw [tabV_set (n * 3) (fG es) (fG (es ++ [e])) (gn * 3) (fun j hj hne => by rw [HGR.out j (by omega), if_neg (by rw [if_pos HK1.out]; omega)]; omega), HGR.out _ (by omega), if_pos (by rw [if_pos HK1.out]; omega), ← HX.out]
          exact this
        · have e0 := L4.cell 0 (.int .i64 e.kind) rfl
          have dk : (e.kind == 1) = false := by simpa using hk1
          have cc := own_cellj H4.out.gs (gn * 3 + 1) _ (tabV_get (n * 3) (fG es) (gn * 3 + 1) (by omega))
          have fr := own_free H4.out.gs (gn * 3 + 1)
          obtain ⟨x, hx⟩ : ∃ x, x = fG es ((gn * 3 + 1 : Nat) : Int) := ⟨_, rfl⟩
          rw [← hx] at cc
          have hxr : 0 ≤ x ∧ x ≤ 1000000 := by
            rw [hx]
            have := cB_range es (isO (if ((gn * 3 + 1 : Nat) : Int) % 3 = 0 then 1 else if ((gn * 3 + 1 : Nat) : Int) % 3 = 1 then 9 else 2) (((gn * 3 + 1 : Nat) : Int) / 3))
            unfold fG cO
            omega
          have hw : wrap64 (x + 1) = x + 1 := by unfold wrap64; omega
          have hg4 : g1 < w4.heap.size := own_lt H4.out.gs g1 rfl
          have HX := Aside0.mk hx
          have HK1 := Aside0.mk hk1
          clear hx hk1 hb4
          go_wp2_with fail
          go_end0
          have n1 : g1 ≠ w.heap.size := by
            have := own_ne H4.out.gs L4 (by decide)
            intro q
            exact this (by rw [← q]; rfl)
          have n2 : g1 ≠ b := by
            have := own_ne H4.out.gs H4.out.blk (by decide)
            intro q
            exact this (by rw [← q]; rfl)
          have hn := ne_types H4.out.gs H4.out.ps (by decide)
          refine ⟨rfl, ⟨H4.out.le, H4.out.blk.other _ _ n2, ?_, own_setCell (p := ⟨g1, gn * 3 + 1, none⟩) H4.out.ps (fun q => hn g1 rfl q.symm) _⟩, C4.out.setb (.inr (.inl rfl)) _⟩
          have := own_setj H4.out.gs (gn * 3 + 1) (.int .i64 (x + 1)) (by omega)
          rw [tabV_set (n * 3) (fG es) (fG (es ++ [e])) (gn * 3 + 1) (fun j hj hne => by rw [HGR.out j (by omega), if_neg (by rw [if_neg HK1.out]; omega)]; omega), HGR.out _ (by omega), if_pos (by rw [if_neg HK1.out]; omega), ← HX.out]
          exact this
      · have e1 := L3.out.cell 1 (.int .i64 e.g) rfl
        go_wp2_with fail
        refine (row_none e.g H3.out (by omega)).mono ?_
        rintro r w4 ⟨rfl, hb4⟩
        have H4 := Aside0.mk (H3.out.bw hb4)
        have C4 := Aside0.mk (C3.out.trans (Chg.of_bw hb4))
        go_wp2_with fail
        go_end0
        refine ⟨rfl, ⟨H4.out.le, H4.out.blk, ?_, H4.out.ps⟩, C4.out⟩
        rw [tabV_same (n * 3) (fG es) (fG (es ++ [e])) (fun j hj => by
          rw [HGR.out j (by omega), if_neg ?_]
          · omega
          · split <;> omega)]
        exact H4.out.gs
end
end Go.Proofs.Ytclippikdfcgkaa.M
