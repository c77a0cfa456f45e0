/- Report: the document's words and line of an event. Condition: events that may be told. -/
import Derived.Test.YtogpjimmcckkcaaDoorMv7
namespace Go.Proofs.YtogpjimmcckkcaaDoor.M
open Go.RowKit Go.Proofs.YtogpjimmcckkcaaDoorW.PrintWords Go.Proofs.YtogpjimmcckkcaaDoorW.PrintLast Go.Proofs.YtogpjimmcckkcaaDoorW.PrintMore
set_option linter.unusedVariables false
set_option linter.unusedSimpArgs false
theorem Words_calls (w : World) : Calls Tryd.prog 25 #[] w fun e w' => e = .returned (.slice (some ⟨w.heap.size, 0, none⟩) 12 12) ∧ (∀ k, k < 12 → w'.cell? ⟨w.heap.size, k, none⟩ = some (strV (evW k))) ∧ Bw w w' := by
  have HB := Aside0.mk (Bw.refl w)
  go_enter Tryd.func25, Tryd.ntmps25
  go_wp2_with fail
  go_ret
  refine ⟨rfl, fun k hk => ?_, HB.out.alloc _⟩
  have hb := Blk.new w #[strV (evW 0), strV (evW 1), strV (evW 2), strV (evW 3), strV (evW 4), strV (evW 5), strV (evW 6), strV (evW 7), strV (evW 8), strV (evW 9), strV (evW 10), strV (evW 11)] 9
  exact hb.cell k _ (by
    have hk2 : k = 0 ∨ k = 1 ∨ k = 2 ∨ k = 3 ∨ k = 4 ∨ k = 5 ∨ k = 6 ∨ k = 7 ∨ k = 8 ∨ k = 9 ∨ k = 10 ∨ k = 11 := by omega
    rcases hk2 with rfl | rfl | rfl | rfl | rfl | rfl | rfl | rfl | rfl | rfl | rfl | rfl <;> rfl)
set_option maxHeartbeats 4000000 in
set_option maxRecDepth 100000 in
theorem refLineR_calls (k g o t p : Int) (w : World) (hr : rightR ⟨k, g, o, t, p⟩ = true) : Calls Tryd.prog 22 #[.agg #[.int .i64 k, .int .i64 g, .int .i64 o, .int .i64 t, .int .i64 p]] w fun e w' => e = .returned (strV (lineR ⟨k, g, o, t, p⟩)) ∧ Bw w w' := by
  have HB := Aside0.mk ((Bw.refl w).alloc (.cells #[.int .i64 k, .int .i64 g, .int .i64 o, .int .i64 t, .int .i64 p] 34))
  have HK := Aside0.mk (Blk.new w #[.int .i64 k, .int .i64 g, .int .i64 o, .int .i64 t, .int .i64 p] 34)
  have hrg := rightR_range hr
  dsimp only at hrg
  obtain ⟨⟨hk0, hk1⟩, ⟨hg0, hg1⟩, ⟨ho0, ho1⟩, ⟨ht0, ht1⟩, ⟨hp0, hp1⟩⟩ := hrg
  obtain ⟨K, rfl⟩ := Int.eq_ofNat_of_zero_le (show 0 ≤ k by omega)
  obtain ⟨G, rfl⟩ := Int.eq_ofNat_of_zero_le hg0
  obtain ⟨T, rfl⟩ := Int.eq_ofNat_of_zero_le ht0
  obtain ⟨w0, hw0⟩ : ∃ w0, w0 = w.alloc (.cells #[.int .i64 (K : Int), .int .i64 (G : Int), .int .i64 o, .int .i64 (T : Int), .int .i64 p] 34) := ⟨_, rfl⟩
  rw [← hw0] at HB HK
  have HG := Aside0.mk (fun W => Number_calls G (by omega) W)
  have HT := Aside0.mk (fun W => Number_calls T (by omega) W)
  have hl1 := dec_len G
  have hl3 := dec_len T
  have hl0 := evW_len K
  have hK := Aside0.mk (show K < 12 by omega)
  obtain ⟨y0, hy0⟩ : ∃ y, y = evW K := ⟨_, rfl⟩
  obtain ⟨y1, hy1⟩ : ∃ y, y = Lib.decDigits G := ⟨_, rfl⟩
  obtain ⟨y3, hy3⟩ : ∃ y, y = Lib.decDigits T := ⟨_, rfl⟩
  have HY0 := Aside0.mk hy0
  rw [← hy1] at HG
  rw [← hy3] at HT
  rw [← hy0] at hl0
  rw [← hy1] at hl1
  rw [← hy3] at hl3
  obtain ⟨c0, c1, c2, c3, c4, cl⟩ := five_cells HK.out
  have hl1 : y1.length ≤ 65540 := by omega
  have hl3 : y3.length ≤ 65540 := by omega
  have HL : Aside0 (lineR ⟨(K : Int), (G : Int), o, (T : Int), p⟩ = y0 ++ (32 :: 103 :: y1) ++ namedL 103 o ++ (32 :: 116 :: y3) ++ namedL 112 p ++ [10]) := ⟨by
    unfold lineR
    dsimp only
    rw [show namedL 103 (G : Int) = 32 :: 103 :: y1 by unfold namedL; rw [if_neg (by omega), hy1]; rfl, show namedL 116 (T : Int) = 32 :: 116 :: y3 by unfold namedL; rw [if_neg (by omega), hy3]; rfl, hy0]
    rfl⟩
  have HO := Aside0.mk (show ∀ (O : Nat), o = (O : Int) → (∀ W, Calls Tryd.prog 45 #[.int .i64 (O : Int)] W fun e w' => e = .returned (strV (Lib.decDigits O)) ∧ Bw W w') ∧ (Lib.decDigits O).length ≤ 65536 ∧ namedL 103 o = 32 :: 103 :: Lib.decDigits O from fun O h => ⟨fun W => Number_calls O (by omega) W, by have := dec_len O; omega, by unfold namedL; rw [if_neg (by omega), h]; rfl⟩)
  have HP := Aside0.mk (show ∀ (O : Nat), p = (O : Int) → (∀ W, Calls Tryd.prog 45 #[.int .i64 (O : Int)] W fun e w' => e = .returned (strV (Lib.decDigits O)) ∧ Bw W w') ∧ (Lib.decDigits O).length ≤ 65536 ∧ namedL 112 p = 32 :: 112 :: Lib.decDigits O from fun O h => ⟨fun W => Number_calls O (by omega) W, by have := dec_len O; omega, by unfold namedL; rw [if_neg (by omega), h]; rfl⟩)
  have q0 : ¬ (9223372036854775807 < y0.length + 2) := by omega
  have q1 : ¬ (9223372036854775807 < y0.length + 2 + y1.length) := by omega
  have hkN : K < 12 := hK.out
  have hkI : (K : Int) < 12 := by omega
  have hk0' : (0 : Int) ≤ (K : Int) := by omega
  clear hr hy0 hy1 hy3 hk0 hk1 hg0 hg1 ht0 ht1
  go_enter Tryd.func22, Tryd.ntmps22
  go_wp2_with fail
  rw [← hw0]
  clear hw0
  go_region_law (first | (go_simp; go_at_call 25; refine (Words_calls _).mono ?_; rintro e w5 ⟨rfl, hwd, hb5'⟩; have hb5 := (Bw.refl w0).drew.trans hb5'; obtain ⟨c0, c1, c2, c3, c4, cl⟩ := five_cells (HK.out.bw hb5); have kd : w5.cell? ⟨w0.heap.size, K, none⟩ = some (strV y0) := (by have := hwd K hK.out; rw [← HY0.out] at this; exact this); have HB5 := Aside0.mk hb5; clear hwd hb5 hb5'; dsimp only) | (go_simp; go_at_call 45; refine (HG.out _).mono ?_; rintro e w6 ⟨rfl, hb6⟩; obtain ⟨c0, c1, c2, c3, c4, cl⟩ := five_cells ((HK.out.bw HB5.out).bw hb6); have kd := hb6.kept kd; have HK6 := Aside0.mk ((HK.out.bw HB5.out).bw hb6); have HB6 := Aside0.mk (HB.out.trans (HB5.out.trans hb6)); clear hb6; dsimp only))
  all_goals
    by_cases ho : o = -1
    · by_cases hp : p = -1
      · subst ho
        have HKA := HK6
        have HBA := HB6
        have NO : namedL 103 (-1) = [] := rfl
        subst hp
        have NP : namedL 112 (-1) = [] := rfl
        have HNO := Aside0.mk NO
        have HNP := Aside0.mk NP
        clear NO NP HO HP
        go_wp2_with fail
        refine (HT.out _).mono ?_
        rintro e w8 ⟨rfl, hb8⟩
        have HK8 := Aside0.mk (HKA.out.bw hb8)
        have HB8 := Aside0.mk (HBA.out.trans hb8)
        obtain ⟨c0, c1, c2, c3, c4, cl⟩ := five_cells HK8.out
        clear hb8
        have HB9 := HB8
        go_wp2_with fail
        go_ret
        rw [HL.out, HNO.out, HNP.out]
        refine ⟨?_, HB9.out⟩
        simp only [str_two]
        simp
      · subst ho
        have HKA := HK6
        have HBA := HB6
        have NO : namedL 103 (-1) = [] := rfl
        obtain ⟨P, hP⟩ := Int.eq_ofNat_of_zero_le (show 0 ≤ p by omega)
        obtain ⟨HP1, hpl, NP⟩ := HP.out P hP
        have HP1 := Aside0.mk HP1
        subst hP
        obtain ⟨y4, hy4⟩ : ∃ y, y = Lib.decDigits P := ⟨_, rfl⟩
        rw [← hy4] at HP1 hpl NP
        clear hy4 hp
        have HNO := Aside0.mk NO
        have HNP := Aside0.mk NP
        clear NO NP HO HP
        go_wp2_with fail
        refine (HT.out _).mono ?_
        rintro e w8 ⟨rfl, hb8⟩
        have HK8 := Aside0.mk (HKA.out.bw hb8)
        have HB8 := Aside0.mk (HBA.out.trans hb8)
        obtain ⟨c0, c1, c2, c3, c4, cl⟩ := five_cells HK8.out
        clear hb8
        go_wp2_with fail
        refine (HP1.out _).mono ?_
        rintro e w9 ⟨rfl, hb9⟩
        have HB9 := Aside0.mk (HB8.out.trans hb9)
        clear hb9
        go_wp2_with fail
        go_ret
        rw [HL.out, HNO.out, HNP.out]
        refine ⟨?_, HB9.out⟩
        simp only [str_two]
        simp
    · by_cases hp : p = -1
      · subst hp
        have NP : namedL 112 (-1) = [] := rfl
        obtain ⟨O, hO⟩ := Int.eq_ofNat_of_zero_le (show 0 ≤ o by omega)
        obtain ⟨HO1, hol, NO⟩ := HO.out O hO
        have HO1 := Aside0.mk HO1
        subst hO
        obtain ⟨y2, hy2⟩ : ∃ y, y = Lib.decDigits O := ⟨_, rfl⟩
        rw [← hy2] at HO1 hol NO
        clear hy2 ho
        have HNO := Aside0.mk NO
        have HNP := Aside0.mk NP
        clear NO NP HO HP
        go_wp2_with fail
        refine (HO1.out _).mono ?_
        rintro e w7 ⟨rfl, hb7⟩
        have HKA := Aside0.mk (HK6.out.bw hb7)
        have HBA := Aside0.mk (HB6.out.trans hb7)
        obtain ⟨c0, c1, c2, c3, c4, cl⟩ := five_cells HKA.out
        clear hb7
        go_wp2_with fail
        refine (HT.out _).mono ?_
        rintro e w8 ⟨rfl, hb8⟩
        have HK8 := Aside0.mk (HKA.out.bw hb8)
        have HB8 := Aside0.mk (HBA.out.trans hb8)
        obtain ⟨c0, c1, c2, c3, c4, cl⟩ := five_cells HK8.out
        clear hb8
        have HB9 := HB8
        go_wp2_with fail
        go_ret
        rw [HL.out, HNO.out, HNP.out]
        refine ⟨?_, HB9.out⟩
        simp only [str_two]
        simp
      · obtain ⟨O, hO⟩ := Int.eq_ofNat_of_zero_le (show 0 ≤ o by omega)
        obtain ⟨HO1, hol, NO⟩ := HO.out O hO
        have HO1 := Aside0.mk HO1
        subst hO
        obtain ⟨y2, hy2⟩ : ∃ y, y = Lib.decDigits O := ⟨_, rfl⟩
        rw [← hy2] at HO1 hol NO
        clear hy2 ho
        obtain ⟨P, hP⟩ := Int.eq_ofNat_of_zero_le (show 0 ≤ p by omega)
        obtain ⟨HP1, hpl, NP⟩ := HP.out P hP
        have HP1 := Aside0.mk HP1
        subst hP
        obtain ⟨y4, hy4⟩ : ∃ y, y = Lib.decDigits P := ⟨_, rfl⟩
        rw [← hy4] at HP1 hpl NP
        clear hy4 hp
        have HNO := Aside0.mk NO
        have HNP := Aside0.mk NP
        clear NO NP HO HP
        go_wp2_with fail
        refine (HO1.out _).mono ?_
        rintro e w7 ⟨rfl, hb7⟩
        have HKA := Aside0.mk (HK6.out.bw hb7)
        have HBA := Aside0.mk (HB6.out.trans hb7)
        obtain ⟨c0, c1, c2, c3, c4, cl⟩ := five_cells HKA.out
        clear hb7
        go_wp2_with fail
        refine (HT.out _).mono ?_
        rintro e w8 ⟨rfl, hb8⟩
        have HK8 := Aside0.mk (HKA.out.bw hb8)
        have HB8 := Aside0.mk (HBA.out.trans hb8)
        obtain ⟨c0, c1, c2, c3, c4, cl⟩ := five_cells HK8.out
        clear hb8
        go_wp2_with fail
        refine (HP1.out _).mono ?_
        rintro e w9 ⟨rfl, hb9⟩
        have HB9 := Aside0.mk (HB8.out.trans hb9)
        clear hb9
        go_wp2_with fail
        go_ret
        rw [HL.out, HNO.out, HNP.out]
        refine ⟨?_, HB9.out⟩
        simp only [str_two]
        simp
end Go.Proofs.YtogpjimmcckkcaaDoor.M
