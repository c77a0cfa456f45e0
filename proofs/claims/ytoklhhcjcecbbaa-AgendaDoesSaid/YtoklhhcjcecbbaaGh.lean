/- Agenda: container/heap's up, down, Push, Pop over a pile. Conditions: as in the texts before. -/
import Derived.Test.YtoklhhcjcecbbaaGf
import Derived.Laws.EntriesVeiled
import Derived.Shelf.Abstract
namespace Go.Proofs.Ytoklhhcjcecbbaa.M
open Go.RowKit Go.Maps Go.Proofs.YtoklhhcjcecbbaaW.PrintWords Go.Proofs.YtoklhhcjcecbbaaW.PrintLast Go.Proofs.YtoklhhcjcecbbaaW.PrintMore
set_option linter.unusedVariables false
set_option linter.unusedSimpArgs false
/-- A pile, whatever its map is. -/
def IsPl (w : World) (base b mb : Nat) (v : Value) (L : List It) : Prop := ∃ D, IsPile w base b mb v L D
theorem mLess (b : Nat) (W : World) : (method 303 86 (.pointer (some ⟨b, 0, none⟩)) "Less").run Try.prog W = .ok (146, .pointer (some ⟨b, 0, none⟩)) W := by kernel_rfl
theorem mSwap (b : Nat) (W : World) : (method 303 86 (.pointer (some ⟨b, 0, none⟩)) "Swap").run Try.prog W = .ok (149, .pointer (some ⟨b, 0, none⟩)) W := by kernel_rfl
theorem mLen (b : Nat) (W : World) : (method 303 86 (.pointer (some ⟨b, 0, none⟩)) "Len").run Try.prog W = .ok (44, .pointer (some ⟨b, 0, none⟩)) W := by kernel_rfl
theorem mPush (b : Nat) (W : World) : (method 303 86 (.pointer (some ⟨b, 0, none⟩)) "Push").run Try.prog W = .ok (148, .pointer (some ⟨b, 0, none⟩)) W := by kernel_rfl
theorem mPop (b : Nat) (W : World) : (method 303 86 (.pointer (some ⟨b, 0, none⟩)) "Pop").run Try.prog W = .ok (147, .pointer (some ⟨b, 0, none⟩)) W := by kernel_rfl
abbrev pileV (b : Nat) : Value := .iface 86 (.pointer (some ⟨b, 0, none⟩))
def upL : Nat → List It → Nat → List It
  | 0, L, _ => L
  | f + 1, L, j =>
    if j = 0 then L else match L[j]?, L[(j - 1) / 2]? with
      | some x, some y => if aheadB x y = true then upL f (swapL L ((j - 1) / 2) j y x) ((j - 1) / 2) else L
      | _, _ => L
section
variable {w w1 : World} {base b mb : Nat} {v : Value} {L : List It}
theorem IsPl.bw (h : IsPl w base b mb v L) (hb : Bw w w1) : IsPl w1 base b mb v L := let ⟨D, h⟩ := h; ⟨D, h.bw hb⟩
theorem hSwap (h : IsPl w base b mb v L) (i k : Nat) (x y : It) (hx : L[i]? = some x) (hy : L[k]? = some y) :
    Calls Try.prog 149 #[.pointer (some ⟨b, 0, none⟩), .int .i64 (i : Int), .int .i64 (k : Int)] w fun e w' => e = .returned (.tuple #[]) ∧ IsPl w' base b mb v (swapL L i k x y) ∧ Chg (fun j => v.ownBlock = some j ∨ j = mb) w w' := by
  obtain ⟨D, h⟩ := h
  by_cases hik : i = k
  · subst hik
    obtain rfl := Option.some.inj (hx.symm.trans hy)
    have e : swapL L i i x x = L := by
      unfold swapL
      have hil := (List.getElem?_eq_some_iff.1 hx).1
      rw [List.set_set]
      refine List.ext_getElem? fun j => ?_
      rw [List.getElem?_set]
      split
      · rename_i e; subst e; first | exact hx.symm | (rw [if_pos hil]; exact hx.symm)
      · rfl
    rw [e]
    exact (pSwap_eq h i x hx).mono fun e w' ⟨h1, h2, h3⟩ => ⟨h1, ⟨_, h2⟩, h3⟩
  · exact (pSwap_ne h i k x y hx hy hik).mono fun e w' ⟨h1, h2, h3⟩ => ⟨h1, ⟨_, h2⟩, h3⟩
theorem hLess (h : IsPl w base b mb v L) (i k : Nat) (x y : It) (hx : L[i]? = some x) (hy : L[k]? = some y) : Calls Try.prog 146 #[.pointer (some ⟨b, 0, none⟩), .int .i64 (i : Int), .int .i64 (k : Int)] w fun e w' => e = .returned (.bool (aheadB x y)) ∧ Bw w w' := let ⟨D, h⟩ := h; pLess_calls h i k x y hx hy
theorem hLen (h : IsPl w base b mb v L) : Calls Try.prog 44 #[.pointer (some ⟨b, 0, none⟩)] w fun e w' => e = .returned (.int .i64 L.length) ∧ Bw w w' := let ⟨D, h⟩ := h; pLen_calls h
theorem IsPl.small (h : IsPl w base b mb v L) : L.length ≤ 1000000 := let ⟨_, h⟩ := h; h.small
theorem upL_len : ∀ (f : Nat) (L : List It) (j : Nat), (upL f L j).length = L.length
  | 0, L, j => rfl
  | f + 1, L, j => by
    rw [upL]
    split
    · rfl
    · split
      · split
        · rw [upL_len]; unfold swapL; simp
        · rfl
      · rfl
theorem upL_fuel : ∀ (f g : Nat) (L : List It) (j : Nat), j < f → j < g → upL g L j = upL f L j
  | 0, _, _, _, h, _ => absurd h (Nat.not_lt_zero _)
  | _, 0, _, _, _, h => absurd h (Nat.not_lt_zero _)
  | f + 1, g + 1, L, j, hf, hg => by
    rw [upL, upL]
    by_cases h0 : j = 0
    · rw [if_pos h0, if_pos h0]
    · rw [if_neg h0, if_neg h0]
      cases L[j]? with
      | none => rfl
      | some x =>
        cases L[(j - 1) / 2]? with
        | none => rfl
        | some y =>
          dsimp only
          split
          · exact upL_fuel f g _ _ (by omega) (by omega)
          · rfl
set_option maxHeartbeats 2000000 in
set_option maxRecDepth 100000 in
theorem up_calls (h : IsPl w base b mb v L) (j : Nat) (hj : j < L.length) :
    Calls Try.prog 73 #[pileV b, .int .i64 (j : Int)] w fun e w' => e = .returned (.tuple #[]) ∧ IsPl w' base b mb v (upL (j + 1) L j) ∧ Chg (fun j => v.ownBlock = some j ∨ j = mb) w w' := by
  have H := Aside0.mk h
  have hm1 := mLess b
  have hm2 := mSwap b
  have HC := Aside0.mk (Chg.refl (fun j => v.ownBlock = some j ∨ j = mb) w)
  have hsm := h.small
  clear h
  go_enter Try.func73, Try.ntmps73
  go_wp2_with fail
  go_loopw [1] (fun jv wr => ∃ (q : Nat) (M : List It), q < L.length ∧ jv = .int .i64 q ∧ M.length = L.length ∧ Aside0 (upL (q + 1) M q = upL (j + 1) L j) ∧ Aside0 (IsPl wr base b mb v M) ∧ Aside0 (Chg (fun j => v.ownBlock = some j ∨ j = mb) w wr)) (fun jv _ => (intOf jv).toNat)
  case atStart => exact ⟨j, L, hj, rfl, rfl, ⟨rfl⟩, H, HC⟩
  case round =>
    obtain ⟨q, M, hq, rfl, hM, HU, HP, HK⟩ := hrel
    by_cases hq0 : q = 0
    · subst hq0
      have HF := Aside0.mk (show upL (j + 1) L j = M by rw [← HU.out]; rfl)
      go_wp2_with fail
      go_end0
      rw [HF.out]
      exact ⟨rfl, HP.out, HK.out⟩
    · obtain ⟨x, hx⟩ : ∃ x, M[q]? = some x := ⟨_, List.getElem?_eq_getElem (by omega)⟩
      obtain ⟨y, hy⟩ : ∃ y, M[(q - 1) / 2]? = some y := ⟨_, List.getElem?_eq_getElem (by omega)⟩
      have HX := Aside0.mk hx
      have HY := Aside0.mk hy
      have e1 : ((q : Int) - 1).tdiv 2 = (((q - 1) / 2 : Nat) : Int) := by
        rw [show (q : Int) - 1 = ((q - 1 : Nat) : Int) by omega]
        rfl
      obtain ⟨i, hi⟩ : ∃ i, i = (q - 1) / 2 := ⟨_, rfl⟩
      rw [← hi] at e1 hy
      have hne : ((i : Int) == (q : Int)) = false := by rw [beq_eq_false_iff_ne]; omega
      have hnn : i ≠ q := by omega
      have hw : wrap64 (i : Int) = i := by simp [wrap64]; omega
      have HI := Aside0.mk hi
      have HL := Aside0.mk (fun W (hW : IsPl W base b mb v M) => hLess hW q i x y hx hy)
      cases hb : aheadB x y
      · have HF := Aside0.mk (show upL (j + 1) L j = M by rw [← HU.out, upL, if_neg hq0, HX.out, HY.out]; simp [hb])
        rw [hb] at HL
        clear hx hy hi hb
        go_wp2_with fail
        refine (HL.out _ HP.out).mono ?_
        rintro e w1 ⟨rfl, hb1⟩
        go_wp2_with fail
        go_end0
        rw [HF.out]
        exact ⟨rfl, HP.out.bw hb1, HK.out.trans (Chg.of_bw hb1)⟩
      · have HF := Aside0.mk (show upL (i + 1) (swapL M i q y x) i = upL (j + 1) L j by
          have e : upL (q + 1) M q = upL q (swapL M i q y x) i := by
            rw [upL, if_neg hq0, HX.out, HY.out]
            simp only [hb, if_true, ← HI.out]
          rw [← HU.out, e]
          exact (upL_fuel (i + 1) q (swapL M i q y x) i (by omega) (by omega)).symm)
        rw [hb] at HL
        have HS := Aside0.mk (fun W (hW : IsPl W base b mb v M) => hSwap hW i q y x (HI.out ▸ hy) hx)
        have hil : i < L.length := by omega
        have hiq : i < q := by omega
        clear hx hy hi hb
        go_wp2_with fail
        refine (HL.out _ HP.out).mono ?_
        rintro e w1 ⟨rfl, hb1⟩
        have HP1 := Aside0.mk (HP.out.bw hb1)
        have HK1 := Aside0.mk (HK.out.trans (Chg.of_bw hb1))
        clear hb1
        go_wp2_with fail
        refine (HS.out _ HP1.out).mono ?_
        rintro e w2 ⟨rfl, h2, c2⟩
        have HP2 := Aside0.mk h2
        have HK2 := Aside0.mk (HK1.out.trans c2)
        clear h2 c2
        go_wp2_with fail
        go_roundw
        case rel => exact ⟨i, swapL M i q y x, hil, by first | rfl | rw [hw], by unfold swapL; simp [hM], HF, HP2, HK2⟩
        case measure =>
          show ((i : Int)).toNat < ((q : Int)).toNat
          rw [Int.toNat_natCast, Int.toNat_natCast]
          omega
end
end Go.Proofs.Ytoklhhcjcecbbaa.M
