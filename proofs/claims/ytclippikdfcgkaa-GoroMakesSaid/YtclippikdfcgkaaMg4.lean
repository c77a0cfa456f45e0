/- The law GoroMakes, walked: it answers true. Conditions: the arguments are of their kinds. -/
import Derived.Test.YtclippikdfcgkaaMg3
namespace Go.Proofs.Ytclippikdfcgkaa.M
open Go.RowKit Go.Proofs.YtclippikdfcgkaaW.PrintWords Go.Proofs.YtclippikdfcgkaaW.PrintLast Go.Proofs.YtclippikdfcgkaaW.PrintMore
set_option linter.unusedVariables false
set_option linter.unusedSimpArgs false
attribute [local go_sem ↓] eqInstr
theorem progs1 : progsOf [3] = [[(3, 0)]] := by decide
set_option maxHeartbeats 4000000 in
set_option maxRecDepth 100000 in
theorem GoroMakes_walk (w : World) (gs : Int) (ws : (Lit.int .i64 gs).wf = true) (g : Int) (wg : (Lit.int .i64 g).wf = true) (p : Int) (wp : (Lit.int .i64 p).wf = true) :
    Calls Try.prog 9 #[.int .i64 gs, .int .i64 g, .int .i64 p] w fun e w' => e = .returned (.bool true) ∧ Bw w w' := by
  have HB := Aside0.mk (Bw.refl w)
  clear ws wg wp
  by_cases h1 : 300 < gs ∧ gs ≤ 65536
  · have e1 : decide (300 < gs) = true := by simp; omega
    have e2 : decide (gs ≤ 65536) = true := by simp; omega
    clear h1
    go_enter Try.func9, Try.ntmps9
    go_wp2_with fail
    refine (gawake_calls _).mono ?_
    rintro e w1 ⟨rfl, hb1⟩
    go_wp2_with fail
    go_ret
    exact ⟨rfl, HB.out.trans hb1⟩
  by_cases h2 : 1 ≤ gs ∧ gs ≤ 300
  · obtain ⟨m, rfl⟩ := Int.eq_ofNat_of_zero_le (show 0 ≤ gs by omega)
    have hm : 1 ≤ m ∧ m ≤ 300 := by omega
    have e1 : decide ((300 : Int) < (m : Int)) = false := by simp; omega
    have e3 : decide ((1 : Int) ≤ (m : Int)) = true := by simp; omega
    have e4 : decide ((m : Int) ≤ 300) = true := by simp; omega
    have e5 : ((m : Int) == (m : Int)) = true := by simp
    have HM := Aside0.mk hm
    clear h1 h2 hm
    go_enter Try.func9, Try.ntmps9
    go_wp2_with fail
    refine (Read_calls _ 1 [3] _ (rows_lit w [3] (by simp) _ rfl) (by simp) (by simp)).mono ?_
    rintro e w1 ⟨cb, cv, us, rfl, hc, hb1⟩
    rw [progs1] at hc
    have HC := Aside0.mk hc
    have HW := Aside0.mk ((HB.out.alloc _).trans hb1)
    clear hc hb1
    go_wp2_with fail
    refine (gNew_calls m (by have := HM.out; omega) HC.out).mono ?_
    rintro e w2 ⟨b, gg, rfl, hA, hb2⟩
    have HA := Aside0.mk hA
    have HG := Aside0.mk (Nat.le_trans HW.out.size hA.gel)
    have HW := Aside0.mk (HW.out.trans hb2)
    go_wp2_with fail
    refine (gNew_nil 1 _).mono ?_
    rintro e w3 ⟨rfl, hb3⟩
    have HA := Aside0.mk (HA.out.bw hb3)
    have HW := Aside0.mk (HW.out.trans hb3)
    go_wp2_with fail
    refine (gPlace_nil g _).mono ?_
    rintro e w4 ⟨rfl, hb4⟩
    have HA := Aside0.mk (HA.out.bw hb4)
    have HW := Aside0.mk (HW.out.trans hb4)
    go_wp2_with fail
    refine (gBegin_nil g p _).mono ?_
    rintro e w5 ⟨rfl, hb5⟩
    have HA := Aside0.mk (HA.out.bw hb5)
    have HW := Aside0.mk (HW.out.trans hb5)
    go_wp2_with fail
    refine (gNow_nil g _).mono ?_
    rintro e w6 ⟨rfl, hb6⟩
    have HA := Aside0.mk (HA.out.bw hb6)
    have HW := Aside0.mk (HW.out.trans hb6)
    go_wp2_with fail
    refine (gStep_nil g _).mono ?_
    rintro e w7 ⟨rfl, hb7⟩
    have HA := Aside0.mk (HA.out.bw hb7)
    have HW := Aside0.mk (HW.out.trans hb7)
    go_wp2_with fail
    refine (gLen_nil _).mono ?_
    rintro e w8 ⟨rfl, hb8⟩
    have HA := Aside0.mk (HA.out.bw hb8)
    have HW := Aside0.mk (HW.out.trans hb8)
    go_wp2_with fail
    refine (gCode_nil _).mono ?_
    rintro e w9 ⟨rfl, hb9⟩
    have HA := Aside0.mk (HA.out.bw hb9)
    have HW := Aside0.mk (HW.out.trans hb9)
    go_wp2_with fail
    refine (gawake_calls _).mono ?_
    rintro e w10 ⟨rfl, hb10⟩
    have HA := Aside0.mk (HA.out.bw hb10)
    have HW := Aside0.mk (HW.out.trans hb10)
    go_wp2_with fail
    refine (gLen_calls HA.out).mono ?_
    rintro e w11 ⟨rfl, hb11⟩
    have HA := Aside0.mk (HA.out.bw hb11)
    have HW := Aside0.mk (HW.out.trans hb11)
    go_wp2_with fail
    refine (gCode_calls HA.out).mono ?_
    rintro e w12 ⟨rfl, hb12⟩
    have HA := Aside0.mk (HA.out.bw hb12)
    have HW := Aside0.mk (HW.out.trans hb12)
    go_wp2_with fail
    refine (Len_calls HA.out.code).mono ?_
    rintro e w13 ⟨rfl, hb13⟩
    rw [show (([[(3, 0)]] : List (List (Int × Int))).length : Int) = 1 from rfl]
    have HA := Aside0.mk (HA.out.bw hb13)
    have HW := Aside0.mk (HW.out.trans hb13)
    go_wp2_with fail
    refine (gNow_calls 0 (p := ⟨0, 0, 0, 0⟩) (x := (0, 0)) HA.out (by have := HM.out; rw [List.getElem?_replicate, if_pos (by omega)]) rfl).mono ?_
    rintro e w14 ⟨rfl, hA14, hC14⟩
    have HA := Aside0.mk hA14
    have HW := Aside0.mk (hC14.below HW.out (fun i e => by rw [e]; exact HG.out))
    clear hA14 hC14
    go_wp2_with fail
    refine (gBegin_out (m : Int) 0 HA.out (by omega)).mono ?_
    rintro e w15 ⟨rfl, hb15⟩
    have HA := Aside0.mk (HA.out.bw hb15)
    have HW := Aside0.mk (HW.out.trans hb15)
    go_wp2_with fail
    refine (gBegin_none 0 1 HA.out (by have := HM.out; omega) (.inr (by decide))).mono ?_
    rintro e w16 ⟨rfl, hb16⟩
    have HW := Aside0.mk (HW.out.trans hb16)
    go_wp2_with fail
    go_ret
    exact ⟨rfl, HW.out⟩
  · have HO := Aside0.mk (show gs < 1 ∨ 65536 < gs by omega)
    by_cases h3 : gs < 1
    · have e1 : decide (300 < gs) = false := by simp; omega
      have e3 : decide (1 ≤ gs) = false := by simp; omega
      clear h1 h2 h3
      go_enter Try.func9, Try.ntmps9
      go_wp2_with fail
      refine (Read_calls _ 1 [3] _ (rows_lit w [3] (by simp) _ rfl) (by simp) (by simp)).mono ?_
      rintro e w1 ⟨cb, cv, us, rfl, hc, hb1⟩
      have HW := Aside0.mk ((HB.out.alloc _).trans hb1)
      clear hc hb1
      go_wp2_with fail
      refine (gNew_out gs HO.out cb _).mono ?_
      rintro e w2 ⟨rfl, hb2⟩
      have HW := Aside0.mk (HW.out.trans hb2)
      go_wp2_with fail
      refine (gNew_nil 1 _).mono ?_
      rintro e w3 ⟨rfl, hb3⟩
      have HW := Aside0.mk (HW.out.trans hb3)
      go_wp2_with fail
      refine (gPlace_nil g _).mono ?_
      rintro e w4 ⟨rfl, hb4⟩
      have HW := Aside0.mk (HW.out.trans hb4)
      go_wp2_with fail
      refine (gBegin_nil g p _).mono ?_
      rintro e w5 ⟨rfl, hb5⟩
      have HW := Aside0.mk (HW.out.trans hb5)
      go_wp2_with fail
      refine (gNow_nil g _).mono ?_
      rintro e w6 ⟨rfl, hb6⟩
      have HW := Aside0.mk (HW.out.trans hb6)
      go_wp2_with fail
      refine (gStep_nil g _).mono ?_
      rintro e w7 ⟨rfl, hb7⟩
      have HW := Aside0.mk (HW.out.trans hb7)
      go_wp2_with fail
      refine (gLen_nil _).mono ?_
      rintro e w8 ⟨rfl, hb8⟩
      have HW := Aside0.mk (HW.out.trans hb8)
      go_wp2_with fail
      refine (gCode_nil _).mono ?_
      rintro e w9 ⟨rfl, hb9⟩
      have HW := Aside0.mk (HW.out.trans hb9)
      go_wp2_with fail
      refine (gawake_calls _).mono ?_
      rintro e w10 ⟨rfl, hb10⟩
      have HW := Aside0.mk (HW.out.trans hb10)
      go_wp2_with fail
      go_ret
      exact ⟨rfl, HW.out⟩
    · have e1 : decide (300 < gs) = true := by simp; omega
      have e2 : decide (gs ≤ 65536) = false := by simp; omega
      have e3 : decide (1 ≤ gs) = true := by simp; omega
      have e4 : decide (gs ≤ 300) = false := by simp; omega
      clear h1 h2 h3
      go_enter Try.func9, Try.ntmps9
      go_wp2_with fail
      refine (Read_calls _ 1 [3] _ (rows_lit w [3] (by simp) _ rfl) (by simp) (by simp)).mono ?_
      rintro e w1 ⟨cb, cv, us, rfl, hc, hb1⟩
      have HW := Aside0.mk ((HB.out.alloc _).trans hb1)
      clear hc hb1
      go_wp2_with fail
      refine (gNew_out gs HO.out cb _).mono ?_
      rintro e w2 ⟨rfl, hb2⟩
      have HW := Aside0.mk (HW.out.trans hb2)
      go_wp2_with fail
      refine (gNew_nil 1 _).mono ?_
      rintro e w3 ⟨rfl, hb3⟩
      have HW := Aside0.mk (HW.out.trans hb3)
      go_wp2_with fail
      refine (gPlace_nil g _).mono ?_
      rintro e w4 ⟨rfl, hb4⟩
      have HW := Aside0.mk (HW.out.trans hb4)
      go_wp2_with fail
      refine (gBegin_nil g p _).mono ?_
      rintro e w5 ⟨rfl, hb5⟩
      have HW := Aside0.mk (HW.out.trans hb5)
      go_wp2_with fail
      refine (gNow_nil g _).mono ?_
      rintro e w6 ⟨rfl, hb6⟩
      have HW := Aside0.mk (HW.out.trans hb6)
      go_wp2_with fail
      refine (gStep_nil g _).mono ?_
      rintro e w7 ⟨rfl, hb7⟩
      have HW := Aside0.mk (HW.out.trans hb7)
      go_wp2_with fail
      refine (gLen_nil _).mono ?_
      rintro e w8 ⟨rfl, hb8⟩
      have HW := Aside0.mk (HW.out.trans hb8)
      go_wp2_with fail
      refine (gCode_nil _).mono ?_
      rintro e w9 ⟨rfl, hb9⟩
      have HW := Aside0.mk (HW.out.trans hb9)
      go_wp2_with fail
      refine (gawake_calls _).mono ?_
      rintro e w10 ⟨rfl, hb10⟩
      have HW := Aside0.mk (HW.out.trans hb10)
      go_wp2_with fail
      go_ret
      exact ⟨rfl, HW.out⟩
end Go.Proofs.Ytclippikdfcgkaa.M
