/- Script: the document's line of an entry; which entries are right. Conditions: entries that are right, no more than 65536 of them. -/
import Derived.Test.YtogpjimmcckkcaaDoorMu5
import Derived.Test.YtogpjimmcckkcaaDoorMt7
namespace Go.Proofs.YtogpjimmcckkcaaDoor.M
open Go.RowKit Go.Proofs.YtogpjimmcckkcaaDoorW.PrintWords Go.Proofs.YtogpjimmcckkcaaDoorW.PrintLast Go.Proofs.YtogpjimmcckkcaaDoorW.PrintMore
set_option linter.unusedVariables false
set_option linter.unusedSimpArgs false
set_option maxHeartbeats 1000000 in
theorem refLine_calls (k : Int) (h n : Nat) (w : World) (hr : rightE (k, (h : Int)) = true) (h1 : 1 ≤ n) (hn : n ≤ 65536) : Calls Tryd.prog 57 #[.agg #[.int .i64 k, .int .i64 (h : Int)], .int .i64 (n : Int)] w fun e w' => e = .returned (strV (lineL k h n)) ∧ Bw w w' := by
  have HB := Aside0.mk (Bw.refl w)
  obtain ⟨hk, _⟩ := rightE_kind hr
  obtain ⟨_, hh⟩ := rightE_who hr
  dsimp only at hh
  have HI := Aside0.mk (fun W => Number_calls h (by omega) W)
  have HJ := Aside0.mk (fun W => Number_calls n (by omega) W)
  obtain ⟨d, hd⟩ : ∃ d, d = Lib.decDigits h := ⟨_, rfl⟩
  obtain ⟨d2, hd2⟩ : ∃ d2, d2 = Lib.decDigits n := ⟨_, rfl⟩
  have ld : d.length ≤ 300 := by rw [hd]; have := dec_len h; omega
  have ld2 : d2.length ≤ 65537 := by rw [hd2]; have := dec_len n; omega
  rw [← hd] at HI
  rw [← hd2] at HJ
  have z1 : ¬ (9223372036854775807 < 5 + d.length) := by omega
  have z2 : ¬ (9223372036854775807 < 7 + d.length) := by omega
  have HL : Aside0 (lineL k h n = enW k ++ (if thrB k = true then 32 :: d else []) ++ (if 1 < n then [32, 120, 32] ++ d2 else []) ++ [10]) := ⟨by unfold lineL; rw [hd, hd2]⟩
  clear hd hd2 hr
  have hk2 : (k = 1 ∨ k = 4) ∨ (k = 2 ∨ k = 3) := by omega
  by_cases hn1 : 1 < n
  · have dn : decide ((1 : Int) < (n : Int)) = true := decide_eq_true (by omega)
    rw [if_pos hn1] at HL
    clear h1 hn hn1 hk
    rcases hk2 with hk | hk
    · rcases hk with rfl | rfl
      all_goals go_enter Tryd.func57, Tryd.ntmps57
      all_goals go_wp2_with fail
      all_goals refine (HI.out _).mono ?_
      all_goals rintro e w1 ⟨rfl, hb1⟩
      all_goals have HB1 := Aside0.mk (show Bw w w1 from Bw.trans (((Bw.refl w).alloc _).alloc _) hb1)
      all_goals clear hb1
      all_goals go_wp2_with fail
      all_goals refine (HJ.out _).mono ?_
      all_goals rintro e w2 ⟨rfl, hb2⟩
      all_goals have HB2 := Aside0.mk (HB1.out.trans hb2)
      all_goals clear hb2
      all_goals go_wp2_with fail
      all_goals go_ret
      all_goals refine ⟨?_, HB2.out⟩
      all_goals rw [HL.out]
      all_goals simp only [Array.getD_eq_getD_getElem?, str_two]
      all_goals simp [enW, thrB, str_two]
    · rcases hk with rfl | rfl
      all_goals go_enter Tryd.func57, Tryd.ntmps57
      all_goals go_wp2_with fail
      all_goals refine (HJ.out _).mono ?_
      all_goals rintro e w1 ⟨rfl, hb1⟩
      all_goals have HB1 := Aside0.mk (show Bw w w1 from Bw.trans (((Bw.refl w).alloc _).alloc _) hb1)
      all_goals clear hb1
      all_goals go_wp2_with fail
      all_goals go_ret
      all_goals refine ⟨?_, HB1.out⟩
      all_goals rw [HL.out]
      all_goals simp only [Array.getD_eq_getD_getElem?, str_two]
      all_goals simp [enW, thrB, str_two]
  · have dn : decide ((1 : Int) < (n : Int)) = false := decide_eq_false (by omega)
    rw [if_neg hn1] at HL
    clear h1 hn hn1 hk
    rcases hk2 with hk | hk
    · rcases hk with rfl | rfl
      all_goals go_enter Tryd.func57, Tryd.ntmps57
      all_goals go_wp2_with fail
      all_goals refine (HI.out _).mono ?_
      all_goals rintro e w1 ⟨rfl, hb1⟩
      all_goals have HB1 := Aside0.mk (show Bw w w1 from Bw.trans (((Bw.refl w).alloc _).alloc _) hb1)
      all_goals clear hb1
      all_goals go_wp2_with fail
      all_goals go_ret
      all_goals refine ⟨?_, HB1.out⟩
      all_goals rw [HL.out]
      all_goals simp only [Array.getD_eq_getD_getElem?, str_two]
      all_goals simp [enW, thrB, str_two]
    · rcases hk with rfl | rfl
      all_goals go_enter Tryd.func57, Tryd.ntmps57
      all_goals go_wp2_with fail
      all_goals go_ret
      all_goals refine ⟨?_, ((Bw.refl w).alloc _).alloc _⟩
      all_goals rw [HL.out]
      all_goals rfl
end Go.Proofs.YtogpjimmcckkcaaDoor.M
