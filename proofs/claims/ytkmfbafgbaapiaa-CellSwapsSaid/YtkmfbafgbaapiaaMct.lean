/- The law CellSwaps, walked: it answers true. Conditions: the arguments are of their kinds. -/
import Derived.Test.YtkmfbafgbaapiaaMcm
import Derived.Test.YtkmfbafgbaapiaaMcs
import Derived.StillTailTactics
namespace Go.Proofs.Ytkmfbafgbaapiaa.M
open Go.RowKit Go.Proofs.YtkmfbafgbaapiaaW.PrintWords Go.Proofs.YtkmfbafgbaapiaaW.PrintLast Go.Proofs.YtkmfbafgbaapiaaW.PrintMore
set_option linter.unusedVariables false
set_option linter.unusedSimpArgs false

/-- What the memory is behind k swaps at one place. -/
def Swapped (ws ts : List Int) (at_ : Int) (k : Nat) (m : MemS) : Prop :=
  m.words = (if k = 0 then ws else ws.set at_.toNat (ts.getD 0 0)) ∧ m.clock = k
theorem Swapped.len {ws ts : List Int} {at_ : Int} {k : Nat} {m : MemS} (h : Swapped ws ts at_ k m) : m.words.length = ws.length := by
  rw [h.1]
  split <;> simp
theorem Swapped.step {ws ts : List Int} {at_ : Int} {k : Nat} {m : MemS} (h : Swapped ws ts at_ k m) (ha : 0 ≤ at_ ∧ at_ < ws.length) (h0 : ts.getD 0 0 ≠ rd ws at_) (y : Int) (hy : ts.getD k 0 = y) (who : Int) :
    Swapped ws ts at_ (k + 1) (m.swap who at_ (rd ws at_) y) ∧ (m.swap who at_ (rd ws at_) y).last.done = decide (k = 0) := by
  have hl := h.len
  unfold MemS.swap
  rw [MemS.does_at m ⟨3, who, at_, 0, y, false⟩ _ (by simpa [hl] using ha)]
  obtain ⟨h1, h2⟩ := h
  simp only [swapF, h1]
  by_cases hk : k = 0
  · subst hk
    subst hy
    simp only [if_true, Swapped, h2, Nat.succ_ne_zero, if_false]
    exact ⟨⟨trivial, by omega⟩, by simp⟩
  · have e : rd (ws.set at_.toNat (ts.getD 0 0)) at_ = ts.getD 0 0 := rd_set _ _ _ ha
    simp only [if_neg hk, e, if_neg h0, Swapped, Nat.succ_ne_zero, if_false, h2]
    refine ⟨⟨by rw [List.set_set], by omega⟩, by simp [hk]⟩

set_option maxHeartbeats 4000000 in
set_option maxRecDepth 100000 in
theorem CellSwaps_core (A : Option Addr) (cap : Nat) (ws : List Int) (at_ : Int) (A2 : Option Addr) (cap2 : Nat) (ts : List Int) (w : World)
    (hw : Rows (fun x => [Value.int .u64 x]) 1 w A ws) (hs : ws.length ≤ 100) (ht : Rows (fun x => [Value.int .u64 x]) 1 w A2 ts) (hs2 : ts.length ≤ 100) (ha : 0 ≤ at_) (ha2 : at_ < ws.length) :
    Calls Try.prog 12 #[.slice A ws.length cap, .int .i64 at_, .slice A2 ts.length cap2] w fun e w' => e = .returned (.bool true) ∧ Bw w w' := by
  have HB := Aside0.mk (Bw.refl w)
  have HWs := Aside0.mk hw
  have HTo := Aside0.mk ht
  clear hw ht
  have d1 : decide ((100 : Int) < (ws.length : Int)) = false := by simp; omega
  have d2 : decide ((100 : Int) < (ts.length : Int)) = false := by simp; omega
  have d3 : decide (at_ < 0) = false := by simp; omega
  have d4 : decide ((ws.length : Int) ≤ at_) = false := by simp; omega
  have hrd : ws[at_.toNat]? = some (rd ws at_) := by
    rw [rd, List.getD_eq_getElem?_getD, List.getElem?_eq_getElem (by omega)]
    rfl
  obtain ⟨c, hc⟩ : ∃ c, c = rd ws at_ := ⟨_, rfl⟩
  rw [← hc] at hrd
  have HC := Aside0.mk hc
  have HRD := Aside0.mk hrd
  obtain ⟨ad, rfl, hca⟩ := HWs.out.at1 _ c hrd
  clear hc hrd
  go_enter Try.func12, Try.ntmps12
  go_wp2_with fail
  refine (Of_calls (some ad) cap ws _ HWs.out (by omega) (by simp)).mono ?_
  rintro e w1 ⟨b, v, rfl, hM, hb1⟩
  have HM := Aside0.mk hM
  have HW1 := Aside0.mk hb1
  clear hM hb1
  go_wp2_with fail
  go_loopw [9, 10] (fun dv iv wr => ∃ (k : Nat) (dn : Int) (m : MemS), k ≤ ts.length ∧ 0 ≤ dn ∧ dn ≤ 1 ∧ iv = .int .i64 k ∧ dv = .int .i64 dn ∧ Aside0 (dn = if k = 0 then 0 else 1) ∧ Aside0 (∀ j, j < k → ts.getD j 0 ≠ c) ∧ Aside0 (IsMem wr w.heap.size b v m ∧ Swapped ws ts at_ k m) ∧ Aside0 (Bw w wr)) (fun _ iv _ => ts.length - (intOf iv).toNat)
  case atStart => exact ⟨0, 0, _, by omega, by omega, by omega, rfl, rfl, ⟨rfl⟩, ⟨fun j hj => absurd hj (by omega)⟩, ⟨HM.out, rfl, rfl⟩, HW1⟩
  case round =>
    obtain ⟨k, dn, m, hk, dn0, dn1, rfl, rfl, HDN, HN, HMk, HW⟩ := hrel
    by_cases hlt : k < ts.length
    · obtain ⟨y, hy⟩ : ∃ y, ts[k]? = some y := ⟨_, List.getElem?_eq_getElem hlt⟩
      obtain ⟨ad2, rfl, hck⟩ := (HTo.out.bw HW.out).at1 k y hy
      have HY := Aside0.mk hy
      have q0 : ∀ p : BwW wr, p.W.cell? (ad2.add k) = some (.int .u64 y) := fun p => p.cell hck
      have q1 : ∀ p : BwW wr, p.W.cell? (ad.add at_.toNat) = some (.int .u64 c) := fun p => p.cell (HW.out.kept hca)
      clear hy
      by_cases hyc : y = c
      · have e1 : (y == c) = true := beq_iff_eq.mpr hyc
        clear hyc
        go_wp2_with fail
        refine wp_region_bw (by kernel_rfl) (by kernel_rfl) ?_
        repeat (first | go_big_quiet_skip | (go_big_quiet_want; go_big_quiet_op; first | go_big_quiet_on | go_big_quiet_call (fail)))
        refine wpQuiet_nil ?_
        rintro w3 ⟨⟨_, hb3⟩, rfl⟩
        go_wp2_with fail
        refine (cawake_calls _).mono ?_
        rintro e w4 ⟨rfl, hb4⟩
        go_wp2_with fail
        go_ret
        exact ⟨rfl, (HW.out.trans hb3).trans hb4⟩
      · have e1 : (y == c) = false := beq_eq_false_iff_ne.mpr hyc
        have HYC := Aside0.mk hyc
        clear hyc
        go_wp2_with fail
        refine wp_region_bw (by kernel_rfl) (by kernel_rfl) ?_
        repeat (first | go_big_quiet_skip | (go_big_quiet_want; go_big_quiet_op; first | go_big_quiet_on | go_big_quiet_call (fail)))
        refine wpQuiet_nil ?_
        rintro w3 ⟨⟨_, hb3⟩, rfl⟩
        have HMk3 := Aside0.mk (HMk.out.1.bw hb3)
        have HW3 := Aside0.mk (HW.out.trans hb3)
        have hck3 := hb3.kept hck
        have hca3 := HW3.out.kept hca
        clear q0 q1
        go_wp2_with fail
        go_still_tail 11, (by kernel_rfl)
        change wpList _ _ _ _ _ w3.drew
        by_cases hk0 : k = 0
        · have HK0 := Aside0.mk hk0
          have hst := HMk.out.2.step ⟨ha, ha2⟩ (show ts.getD 0 0 ≠ rd ws at_ by rw [← HC.out]; simp only [List.getD_eq_getElem?_getD, ← HK0.out, HY.out]; exact HYC.out) y (by simp [HY.out]) k
          rw [← HC.out] at hst
          have HST := Aside0.mk hst
          have HX := Aside0.mk (show (m.swap k at_ c y).last.done = true by rw [hst.2]; simp; exact HK0.out)
          have hcl : 0 ≤ m.clock ∧ m.clock < 4611686018427387904 := by have := HMk.out.2.2; omega
          have hle : 0 ≤ at_ ∧ at_ < m.words.length := by rw [HMk.out.2.len]; exact ⟨ha, ha2⟩
          clear hst hk0
          go_wp2_with fail
          refine (Swap_in _ b v m k at_ c y _ (HMk3.out.bw (Bw.refl w3).drew) hcl hle).mono ?_
          rintro e w5 ⟨rfl, hM5, hC5⟩
          rw [HX.out]
          have HM5 := Aside0.mk hM5
          have HW5 := Aside0.mk (hC5.below HW3.out.drew HMk3.out.ge)
          clear hM5 hC5 hcl hle
          go_wp2_with fail
          go_roundw
          case rel =>
            refine ⟨k + 1, _, _, by omega, ?_, ?_, by go_num, rfl, ⟨?_⟩, ⟨fun j hj => ?_⟩, ⟨HM5.out, HST.out.1⟩, HW5⟩
            · omega
            · have := HDN.out; rw [if_pos HK0.out] at this; omega
            · have := HDN.out; rw [if_pos HK0.out] at this; simp; omega
            · rcases Nat.lt_succ_iff_lt_or_eq.1 hj with h | rfl
              · exact HN.out j h
              · simp only [List.getD_eq_getElem?_getD, HY.out]; exact HYC.out
          case measure => simp [intOf]; omega
        · have HK0 := Aside0.mk hk0
          have hst := HMk.out.2.step ⟨ha, ha2⟩ (show ts.getD 0 0 ≠ rd ws at_ by rw [← HC.out]; exact HN.out 0 (by have := HK0.out; omega)) y (by simp [HY.out]) k
          rw [← HC.out] at hst
          have HST := Aside0.mk hst
          have HX := Aside0.mk (show (m.swap k at_ c y).last.done = false by rw [hst.2]; simp; exact HK0.out)
          have hcl : 0 ≤ m.clock ∧ m.clock < 4611686018427387904 := by have := HMk.out.2.2; omega
          have hle : 0 ≤ at_ ∧ at_ < m.words.length := by rw [HMk.out.2.len]; exact ⟨ha, ha2⟩
          clear hst hk0
          go_wp2_with fail
          refine (Swap_in _ b v m k at_ c y _ (HMk3.out.bw (Bw.refl w3).drew) hcl hle).mono ?_
          rintro e w5 ⟨rfl, hM5, hC5⟩
          rw [HX.out]
          have HM5 := Aside0.mk hM5
          have HW5 := Aside0.mk (hC5.below HW3.out.drew HMk3.out.ge)
          clear hM5 hC5 hcl hle
          go_wp2_with fail
          go_roundw
          case rel =>
            refine ⟨k + 1, _, _, by omega, ?_, ?_, by go_num, rfl, ⟨?_⟩, ⟨fun j hj => ?_⟩, ⟨HM5.out, HST.out.1⟩, HW5⟩
            · omega
            · have := HDN.out; rw [if_neg HK0.out] at this; omega
            · have := HDN.out; rw [if_neg HK0.out] at this; simp; omega
            · rcases Nat.lt_succ_iff_lt_or_eq.1 hj with h | rfl
              · exact HN.out j h
              · simp only [List.getD_eq_getElem?_getD, HY.out]; exact HYC.out
          case measure => simp [intOf]; omega
    · have hkl : k = ts.length := by omega
      have hq := HMk.out.2
      subst hkl
      have hle : 0 ≤ at_ ∧ at_ < m.words.length := by rw [hq.len]; exact ⟨ha, ha2⟩
      by_cases hl0 : ts.length = 0
      · have dl : ((ts.length : Int) == 0) = true := beq_iff_eq.mpr (by omega)
        have PA := Aside0.mk (show (m.peek at_).1 = c ∧ (m.peek at_).2 = true by
          unfold MemS.peek; rw [if_pos hle, hq.1, if_pos hl0]; exact ⟨HC.out.symm, rfl⟩)
        clear hl0 hle hq
        go_wp2_with fail
        refine (Peek_calls _ b v m at_ _ HMk.out.1).mono ?_
        rintro e w3 ⟨rfl, hb3⟩
        rw [PA.out.1, PA.out.2]
        have HW3 := Aside0.mk (HW.out.trans hb3)
        go_wp2_with fail
        refine (cawake_calls _).mono ?_
        rintro e w5 ⟨rfl, hb5⟩
        have hca5 := (HW3.out.trans hb5).kept hca
        go_wp2_with fail
        go_ret
        exact ⟨by first | rfl | simp, HW3.out.trans hb5⟩
      · have dl : ((ts.length : Int) == 0) = false := beq_eq_false_iff_ne.mpr (by omega)
        obtain ⟨z, hz⟩ : ∃ z, ts[0]? = some z := ⟨_, List.getElem?_eq_getElem (by omega)⟩
        have hz0 : ts.getD 0 0 = z := by simp [hz]
        have PA := Aside0.mk (show (m.peek at_).1 = z ∧ (m.peek at_).2 = true by
          unfold MemS.peek; rw [if_pos hle, hq.1, if_neg hl0, hz0]; exact ⟨rd_set _ _ _ ⟨ha, ha2⟩, rfl⟩)
        have hdn : dn = 1 := by rw [HDN.out, if_neg hl0]
        subst hdn
        have hpos : 0 < (ts.length : Int) := by omega
        have HZ := Aside0.mk hz
        clear hl0 hle hq hz hz0
        go_wp2_with fail
        refine (Peek_calls _ b v m at_ _ HMk.out.1).mono ?_
        rintro e w3 ⟨rfl, hb3⟩
        rw [PA.out.1, PA.out.2]
        have HW3 := Aside0.mk (HW.out.trans hb3)
        go_wp2_with fail
        refine (cawake_calls _).mono ?_
        rintro e w5 ⟨rfl, hb5⟩
        obtain ⟨ad2, rfl, hc5⟩ := (HTo.out.bw (HW3.out.trans hb5)).at1 0 z HZ.out
        rw [show ad2.add 0 = ad2 by simp [Addr.add]] at hc5
        go_wp2_with fail
        go_ret
        exact ⟨by first | rfl | simp, HW3.out.trans hb5⟩

theorem CellSwaps_walk (w : World) (a : Option Addr) (n cap : Nat) (f : RdRow [.int .u64] w a n cap) (y : n * 8 ≤ 140737488351232) (at_ : Int) (wa : (Lit.int .i64 at_).wf = true) (a2 : Option Addr) (n2 cap2 : Nat) (f2 : RdRow [.int .u64] w a2 n2 cap2) (y2 : n2 * 8 ≤ 140737488351232) :
    Calls Try.prog 12 #[.slice a n cap, .int .i64 at_, .slice a2 n2 cap2] w fun e w' => e = .returned (.bool true) ∧ Bw w w' := by
  obtain ⟨ws, rfl, hx, hxw⟩ := rd_ints f
  obtain ⟨ts, rfl, hx2, hxw2⟩ := rd_ints f2
  by_cases h1 : ws.length ≤ 100
  · by_cases h2 : ts.length ≤ 100
    · by_cases h3 : 0 ≤ at_
      · by_cases h4 : at_ < ws.length
        · exact CellSwaps_core a cap ws at_ a2 cap2 ts w hx h1 hx2 h2 h3 h4
        · have HB := Aside0.mk (Bw.refl w)
          have d1 : decide ((100 : Int) < (ws.length : Int)) = false := by simp; omega
          have d2 : decide ((100 : Int) < (ts.length : Int)) = false := by simp; omega
          have d3 : decide (at_ < 0) = false := by simp; omega
          have d4 : decide ((ws.length : Int) ≤ at_) = true := by simp; omega
          clear f hx hxw f2 hx2 hxw2 wa h3 h4
          go_enter Try.func12, Try.ntmps12
          go_wp2_with fail
          refine (cawake_calls _).mono ?_
          rintro e w1 ⟨rfl, hb1⟩
          go_wp2_with fail
          go_ret
          exact ⟨rfl, HB.out.trans hb1⟩
      · have HB := Aside0.mk (Bw.refl w)
        have d1 : decide ((100 : Int) < (ws.length : Int)) = false := by simp; omega
        have d2 : decide ((100 : Int) < (ts.length : Int)) = false := by simp; omega
        have d3 : decide (at_ < 0) = true := by simp; omega
        clear f hx hxw f2 hx2 hxw2 wa h3
        go_enter Try.func12, Try.ntmps12
        go_wp2_with fail
        refine (cawake_calls _).mono ?_
        rintro e w1 ⟨rfl, hb1⟩
        go_wp2_with fail
        go_ret
        exact ⟨rfl, HB.out.trans hb1⟩
    · have HB := Aside0.mk (Bw.refl w)
      have d1 : decide ((100 : Int) < (ws.length : Int)) = false := by simp; omega
      have d2 : decide ((100 : Int) < (ts.length : Int)) = true := by simp; omega
      clear f hx hxw f2 hx2 hxw2 wa
      go_enter Try.func12, Try.ntmps12
      go_wp2_with fail
      refine (cawake_calls _).mono ?_
      rintro e w1 ⟨rfl, hb1⟩
      go_wp2_with fail
      go_ret
      exact ⟨rfl, HB.out.trans hb1⟩
  · have HB := Aside0.mk (Bw.refl w)
    have d1 : decide ((100 : Int) < (ws.length : Int)) = true := by simp; omega
    clear f hx hxw f2 hx2 hxw2 wa
    go_enter Try.func12, Try.ntmps12
    go_wp2_with fail
    refine (cawake_calls _).mono ?_
    rintro e w1 ⟨rfl, hb1⟩
    go_wp2_with fail
    go_ret
    exact ⟨rfl, HB.out.trans hb1⟩
end Go.Proofs.Ytkmfbafgbaapiaa.M
