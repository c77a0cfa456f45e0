/- Agenda: container/heap's down, Push, Pop over a pile. Conditions: as in the texts before. -/
import Derived.Test.YtoklhhcjcecbbaaGh
namespace Go.Proofs.Ytoklhhcjcecbbaa.M
open Go.RowKit Go.Maps Go.Proofs.YtoklhhcjcecbbaaW.PrintWords Go.Proofs.YtoklhhcjcecbbaaW.PrintLast Go.Proofs.YtoklhhcjcecbbaaW.PrintMore
set_option linter.unusedVariables false
set_option linter.unusedSimpArgs false
/-- The child of a place that comes ahead. -/
def kidL (L : List It) (n i : Nat) : Nat :=
  if 2 * i + 1 + 1 < n then match L[2 * i + 1 + 1]?, L[2 * i + 1]? with
    | some y, some x => if aheadB y x = true then 2 * i + 1 + 1 else 2 * i + 1
    | _, _ => 2 * i + 1
  else 2 * i + 1
def downL : Nat → List It → Nat → Nat → List It × Nat
  | 0, L, _, i => (L, i)
  | f + 1, L, n, i =>
    if n ≤ 2 * i + 1 then (L, i) else match L[kidL L n i]?, L[i]? with
      | some y, some x => if aheadB y x = true then downL f (swapL L i (kidL L n i) x y) n (kidL L n i) else (L, i)
      | _, _ => (L, i)
theorem kidL_lt {L : List It} {n i : Nat} (h : 2 * i + 1 < n) : i < kidL L n i ∧ kidL L n i < n := by
  unfold kidL
  split
  · split
    · split <;> omega
    · omega
  · omega
theorem downL_fuel : ∀ (f g : Nat) (L : List It) (n i : Nat), n ≤ i + f → n ≤ i + g → downL g L n i = downL f L n i
  | 0, 0, _, _, _, _, _ => rfl
  | 0, g + 1, L, n, i, hf, hg => by simp only [downL]; rw [if_pos (by omega)]
  | f + 1, 0, L, n, i, hf, hg => by simp only [downL]; rw [if_pos (by omega)]
  | f + 1, g + 1, L, n, i, hf, hg => by
    rw [downL, downL]
    by_cases h0 : n ≤ 2 * i + 1
    · rw [if_pos h0, if_pos h0]
    · rw [if_neg h0, if_neg h0]
      have hk := kidL_lt (L := L) (n := n) (i := i) (by omega)
      cases L[kidL L n i]? with
      | none => rfl
      | some x =>
        cases L[i]? with
        | none => rfl
        | some y =>
          dsimp only
          split
          · exact downL_fuel f g _ _ _ (by omega) (by omega)
          · rfl
theorem swapL_len (L : List It) (i k : Nat) (x y : It) : (swapL L i k x y).length = L.length := by unfold swapL; simp
section
variable {w w1 : World} {base b mb : Nat} {v : Value} {L : List It}
set_option maxHeartbeats 4000000 in
set_option maxRecDepth 100000 in
theorem down_calls (h : IsPl w base b mb v L) (i0 n : Nat) (hn : n ≤ L.length) (hi0 : i0 ≤ n) :
    Calls Try.prog 74 #[pileV b, .int .i64 (i0 : Int), .int .i64 (n : Int)] w fun e w' => e = .returned (.bool (decide (i0 < (downL n L n i0).2))) ∧ IsPl w' base b mb v (downL n L n i0).1 ∧ Chg (fun j => v.ownBlock = some j ∨ j = mb) w w' := by
  have H := Aside0.mk h
  have hm1 := mLess b
  have hm2 := mSwap b
  have HC := Aside0.mk (Chg.refl (fun j => v.ownBlock = some j ∨ j = mb) w)
  have hsm := h.small
  clear h
  go_enter Try.func74, Try.ntmps74
  go_wp2_with fail
  go_loopw [7] (fun iv wr => ∃ (q : Nat) (M : List It), i0 ≤ q ∧ q ≤ n ∧ iv = .int .i64 q ∧ M.length = L.length ∧ Aside0 (downL n M n q = downL n L n i0) ∧ Aside0 (IsPl wr base b mb v M) ∧ Aside0 (Chg (fun j => v.ownBlock = some j ∨ j = mb) w wr)) (fun iv _ => n - (intOf iv).toNat)
  case atStart => exact ⟨i0, L, by omega, hi0, rfl, rfl, ⟨rfl⟩, H, HC⟩
  case round =>
    obtain ⟨q, M, hq1, hq2, rfl, hM, HU, HP, HK⟩ := hrel
    have hw1 : wrap64 (2 * (q : Int)) = 2 * q := by simp [wrap64]; omega
    have hw2 : wrap64 (2 * (q : Int) + 1) = 2 * q + 1 := by simp [wrap64]; omega
    have hw3 : wrap64 (2 * (q : Int) + 1 + 1) = 2 * q + 1 + 1 := by simp [wrap64]; omega
    by_cases hend : n ≤ 2 * q + 1
    · have d1 : decide ((n : Int) ≤ 2 * (q : Int) + 1) = true := decide_eq_true (by omega)
      have HF := Aside0.mk (show downL n L n i0 = (M, q) by
        rw [← HU.out]
        cases n with
        | zero => rfl
        | succ n => rw [downL, if_pos hend])
      clear hend
      go_wp2_with fail
      go_ret
      rw [HF.out]
      exact ⟨ret_bool (by simp), HP.out, HK.out⟩
    · have hq3 : 2 * q + 1 < n := by omega
      have d1 : decide ((n : Int) ≤ 2 * (q : Int) + 1) = false := decide_eq_false (by omega)
      have d2 : decide (2 * (q : Int) + 1 < 0) = false := decide_eq_false (by omega)
      by_cases h2 : 2 * q + 1 + 1 < n
      · have d3 : decide (2 * (q : Int) + 1 + 1 < (n : Int)) = true := decide_eq_true (by omega)
        obtain ⟨x2, hx2⟩ : ∃ y, M[2 * q + 1 + 1]? = some y := ⟨_, List.getElem?_eq_getElem (by omega)⟩
        obtain ⟨x1, hx1⟩ : ∃ y, M[2 * q + 1]? = some y := ⟨_, List.getElem?_eq_getElem (by omega)⟩
        have HL1 := Aside0.mk (fun W (hW : IsPl W base b mb v M) => hLess hW (2 * q + 1 + 1) (2 * q + 1) x2 x1 hx2 hx1)
        cases hb1 : aheadB x2 x1
        · rw [hb1] at HL1
          obtain ⟨y, hy⟩ : ∃ y, M[2 * q + 1]? = some y := ⟨_, List.getElem?_eq_getElem (by omega)⟩
          obtain ⟨x, hx⟩ : ∃ x, M[q]? = some x := ⟨_, List.getElem?_eq_getElem (by omega)⟩
          have HKID := Aside0.mk (show kidL M n q = 2 * q + 1 by unfold kidL; rw [if_pos h2, hx2, hx1]; simp [hb1])
          have HL2 := Aside0.mk (fun W (hW : IsPl W base b mb v M) => hLess hW (2 * q + 1) q y x hy hx)
          have HS := Aside0.mk (fun W (hW : IsPl W base b mb v M) => hSwap hW q (2 * q + 1) x y hx hy)
          have hstep : downL n M n q = if aheadB y x = true then downL (n - 1) (swapL M q (2 * q + 1) x y) n (2 * q + 1) else (M, q) := by
            obtain ⟨n', hn'⟩ : ∃ n', n = n' + 1 := ⟨n - 1, by omega⟩
            subst hn'
            rw [downL, if_neg hend, HKID.out, hy, hx]
            rfl
          cases hb2 : aheadB y x
          · have HF := Aside0.mk (show downL n L n i0 = (M, q) by rw [← HU.out, hstep, hb2]; rfl)
            rw [hb2] at HL2
            clear hx hy hb2 hstep hend h2 hx1 hx2 hb1
            go_wp2_with fail
            refine (HL1.out _ HP.out).mono ?_
            rintro e w1 ⟨rfl, hb1⟩
            have HPn := Aside0.mk (HP.out.bw hb1)
            have HKn := Aside0.mk (HK.out.trans (Chg.of_bw hb1))
            clear hb1
            go_wp2_with fail
            refine (HL2.out _ HPn.out).mono ?_
            rintro e w2 ⟨rfl, hb2⟩
            have HP2 := Aside0.mk (HPn.out.bw hb2)
            have HK2 := Aside0.mk (HKn.out.trans (Chg.of_bw hb2))
            clear hb2
            go_wp2_with fail
            go_ret
            rw [HF.out]
            exact ⟨ret_bool (by simp), HP2.out, HK2.out⟩
          · have HF := Aside0.mk (show downL n (swapL M q (2 * q + 1) x y) n (2 * q + 1) = downL n L n i0 by
              rw [← HU.out, hstep, hb2, if_pos rfl]
              exact downL_fuel _ _ _ _ _ (by omega) (by omega))
            rw [hb2] at HL2
            clear hx hy hb2 hstep hend h2 hx1 hx2 hb1
            go_wp2_with fail
            refine (HL1.out _ HP.out).mono ?_
            rintro e w1 ⟨rfl, hb1⟩
            have HPn := Aside0.mk (HP.out.bw hb1)
            have HKn := Aside0.mk (HK.out.trans (Chg.of_bw hb1))
            clear hb1
            go_wp2_with fail
            refine (HL2.out _ HPn.out).mono ?_
            rintro e w2 ⟨rfl, hb2⟩
            have HP2 := Aside0.mk (HPn.out.bw hb2)
            have HK2 := Aside0.mk (HKn.out.trans (Chg.of_bw hb2))
            clear hb2
            go_wp2_with fail
            refine (HS.out _ HP2.out).mono ?_
            rintro e w3 ⟨rfl, h3, c3⟩
            have HP3 := Aside0.mk h3
            have HK3 := Aside0.mk (HK2.out.trans c3)
            clear h3 c3
            go_wp2_with fail
            go_roundw
            case rel => exact ⟨2 * q + 1, swapL M q (2 * q + 1) x y, by omega, by omega, by go_num, by rw [swapL_len]; exact hM, HF, HP3, HK3⟩
            case measure => simp [intOf]; omega
        · rw [hb1] at HL1
          obtain ⟨y, hy⟩ : ∃ y, M[2 * q + 1 + 1]? = some y := ⟨_, List.getElem?_eq_getElem (by omega)⟩
          obtain ⟨x, hx⟩ : ∃ x, M[q]? = some x := ⟨_, List.getElem?_eq_getElem (by omega)⟩
          have HKID := Aside0.mk (show kidL M n q = 2 * q + 1 + 1 by unfold kidL; rw [if_pos h2, hx2, hx1]; simp [hb1])
          have HL2 := Aside0.mk (fun W (hW : IsPl W base b mb v M) => hLess hW (2 * q + 1 + 1) q y x hy hx)
          have HS := Aside0.mk (fun W (hW : IsPl W base b mb v M) => hSwap hW q (2 * q + 1 + 1) x y hx hy)
          have hstep : downL n M n q = if aheadB y x = true then downL (n - 1) (swapL M q (2 * q + 1 + 1) x y) n (2 * q + 1 + 1) else (M, q) := by
            obtain ⟨n', hn'⟩ : ∃ n', n = n' + 1 := ⟨n - 1, by omega⟩
            subst hn'
            rw [downL, if_neg hend, HKID.out, hy, hx]
            rfl
          cases hb2 : aheadB y x
          · have HF := Aside0.mk (show downL n L n i0 = (M, q) by rw [← HU.out, hstep, hb2]; rfl)
            rw [hb2] at HL2
            clear hx hy hb2 hstep hend h2 hx1 hx2 hb1
            go_wp2_with fail
            refine (HL1.out _ HP.out).mono ?_
            rintro e w1 ⟨rfl, hb1⟩
            have HPn := Aside0.mk (HP.out.bw hb1)
            have HKn := Aside0.mk (HK.out.trans (Chg.of_bw hb1))
            clear hb1
            go_wp2_with fail
            refine (HL2.out _ HPn.out).mono ?_
            rintro e w2 ⟨rfl, hb2⟩
            have HP2 := Aside0.mk (HPn.out.bw hb2)
            have HK2 := Aside0.mk (HKn.out.trans (Chg.of_bw hb2))
            clear hb2
            go_wp2_with fail
            go_ret
            rw [HF.out]
            exact ⟨ret_bool (by simp), HP2.out, HK2.out⟩
          · have HF := Aside0.mk (show downL n (swapL M q (2 * q + 1 + 1) x y) n (2 * q + 1 + 1) = downL n L n i0 by
              rw [← HU.out, hstep, hb2, if_pos rfl]
              exact downL_fuel _ _ _ _ _ (by omega) (by omega))
            rw [hb2] at HL2
            clear hx hy hb2 hstep hend h2 hx1 hx2 hb1
            go_wp2_with fail
            refine (HL1.out _ HP.out).mono ?_
            rintro e w1 ⟨rfl, hb1⟩
            have HPn := Aside0.mk (HP.out.bw hb1)
            have HKn := Aside0.mk (HK.out.trans (Chg.of_bw hb1))
            clear hb1
            go_wp2_with fail
            refine (HL2.out _ HPn.out).mono ?_
            rintro e w2 ⟨rfl, hb2⟩
            have HP2 := Aside0.mk (HPn.out.bw hb2)
            have HK2 := Aside0.mk (HKn.out.trans (Chg.of_bw hb2))
            clear hb2
            go_wp2_with fail
            refine (HS.out _ HP2.out).mono ?_
            rintro e w3 ⟨rfl, h3, c3⟩
            have HP3 := Aside0.mk h3
            have HK3 := Aside0.mk (HK2.out.trans c3)
            clear h3 c3
            go_wp2_with fail
            go_roundw
            case rel => exact ⟨2 * q + 1 + 1, swapL M q (2 * q + 1 + 1) x y, by omega, by omega, by go_num, by rw [swapL_len]; exact hM, HF, HP3, HK3⟩
            case measure => simp [intOf]; omega
      · have d3 : decide (2 * (q : Int) + 1 + 1 < (n : Int)) = false := decide_eq_false (by omega)
        obtain ⟨y, hy⟩ : ∃ y, M[2 * q + 1]? = some y := ⟨_, List.getElem?_eq_getElem (by omega)⟩
        obtain ⟨x, hx⟩ : ∃ x, M[q]? = some x := ⟨_, List.getElem?_eq_getElem (by omega)⟩
        have HKID := Aside0.mk (show kidL M n q = 2 * q + 1 by unfold kidL; rw [if_neg h2])
        have HL2 := Aside0.mk (fun W (hW : IsPl W base b mb v M) => hLess hW (2 * q + 1) q y x hy hx)
        have HS := Aside0.mk (fun W (hW : IsPl W base b mb v M) => hSwap hW q (2 * q + 1) x y hx hy)
        have hstep : downL n M n q = if aheadB y x = true then downL (n - 1) (swapL M q (2 * q + 1) x y) n (2 * q + 1) else (M, q) := by
          obtain ⟨n', hn'⟩ : ∃ n', n = n' + 1 := ⟨n - 1, by omega⟩
          subst hn'
          rw [downL, if_neg hend, HKID.out, hy, hx]
          rfl
        cases hb2 : aheadB y x
        · have HF := Aside0.mk (show downL n L n i0 = (M, q) by rw [← HU.out, hstep, hb2]; rfl)
          rw [hb2] at HL2
          clear hx hy hb2 hstep hend h2
          go_wp2_with fail
          have HPn := HP
          have HKn := HK
          refine (HL2.out _ HPn.out).mono ?_
          rintro e w2 ⟨rfl, hb2⟩
          have HP2 := Aside0.mk (HPn.out.bw hb2)
          have HK2 := Aside0.mk (HKn.out.trans (Chg.of_bw hb2))
          clear hb2
          go_wp2_with fail
          go_ret
          rw [HF.out]
          exact ⟨ret_bool (by simp), HP2.out, HK2.out⟩
        · have HF := Aside0.mk (show downL n (swapL M q (2 * q + 1) x y) n (2 * q + 1) = downL n L n i0 by
            rw [← HU.out, hstep, hb2, if_pos rfl]
            exact downL_fuel _ _ _ _ _ (by omega) (by omega))
          rw [hb2] at HL2
          clear hx hy hb2 hstep hend h2
          go_wp2_with fail
          have HPn := HP
          have HKn := HK
          refine (HL2.out _ HPn.out).mono ?_
          rintro e w2 ⟨rfl, hb2⟩
          have HP2 := Aside0.mk (HPn.out.bw hb2)
          have HK2 := Aside0.mk (HKn.out.trans (Chg.of_bw hb2))
          clear hb2
          go_wp2_with fail
          refine (HS.out _ HP2.out).mono ?_
          rintro e w3 ⟨rfl, h3, c3⟩
          have HP3 := Aside0.mk h3
          have HK3 := Aside0.mk (HK2.out.trans c3)
          clear h3 c3
          go_wp2_with fail
          go_roundw
          case rel => exact ⟨2 * q + 1, swapL M q (2 * q + 1) x y, by omega, by omega, by go_num, by rw [swapL_len]; exact hM, HF, HP3, HK3⟩
          case measure => simp [intOf]; omega
end
end Go.Proofs.Ytoklhhcjcecbbaa.M
