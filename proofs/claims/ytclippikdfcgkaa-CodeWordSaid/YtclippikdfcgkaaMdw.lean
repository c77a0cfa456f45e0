/- The law CodeWord, walked: it answers true. Conditions: the arguments are of their kinds. (Printed by gen/codeword.py.) -/
import Derived.Test.YtclippikdfcgkaaMd7
import Derived.Test.YtclippikdfcgkaaMdl
import Derived.Test.YtclippikdfcgkaaMr
namespace Go.Proofs.Ytclippikdfcgkaa.M
open Go.RowKit Go.Proofs.YtclippikdfcgkaaW.PrintWords Go.Proofs.YtclippikdfcgkaaW.PrintLast Go.Proofs.YtclippikdfcgkaaW.PrintMore
attribute [local go_sem ↓] eqInstr
set_option linter.unusedVariables false
set_option linter.unusedSimpArgs false

theorem wordE_zero (k a : Int) (h : wordE k a = 0) : 0 ≤ k ∧ k ≤ 6 ∧ argsL k ≤ a ∧ a ≤ argsM k ∧ wordW k a = (a - argsL k) * 8 + k := by
  unfold wordE at h
  unfold wordW
  by_cases h1 : k < 0 ∨ 6 < k
  · rw [if_pos h1] at h; omega
  · rw [if_neg h1] at h ⊢
    by_cases h2 : a < argsL k ∨ argsM k < a
    · rw [if_pos h2] at h; omega
    · rw [if_neg h2]; omega
theorem word_ok (k a : Int) (h : wordE k a = 0) : prt (wordW k a) = false ∧ ins (wordW k a) 5000 = (k, a) ∧ 0 ≤ wordW k a ∧ wordW k a < 281474976710656 := by
  obtain ⟨k0, k1, a0, a1, hw⟩ := wordE_zero k a h
  have hr := args_range k
  rw [hw]
  have hm : ((a - argsL k) * 8 + k) % 8 = k := by omega
  have hd : ((a - argsL k) * 8 + k) / 8 = a - argsL k := by omega
  refine ⟨by unfold prt top48; simp; omega, ?_, by omega, by omega⟩
  unfold ins top48 atl1
  rw [if_neg (by omega), hm, hd, if_neg (by omega)]
  unfold argsL at a0
  unfold argsM at a1
  unfold argsL
  by_cases h1 : k = 1
  · subst h1; simp at a0 a1 ⊢; omega
  · rw [if_neg h1] at a0 a1
    by_cases h2 : k = 2
    · subst h2; simp at a0 a1 ⊢; omega
    · rw [if_neg h2] at a1
      by_cases h5 : k = 5
      · subst h5; simp at a0 a1 ⊢; omega
      · rw [if_neg h5] at a1
        rw [if_neg h1, if_neg h2, if_neg h5]
        congr 1
        omega
theorem word_least (k a v : Int) (h : wordE k a = 0) (v0 : 0 ≤ v) (hv : v < wordW k a) (hp : prt v = false) (he : insR v 5000 = (k, a)) : False := by
  obtain ⟨k0, k1, a0, a1, hw⟩ := wordE_zero k a h
  have hr := args_range k
  have hlt := (word_ok k a h).2.2.2
  rw [insR_not' v 5000 hp] at he
  rw [hw] at hv hlt
  unfold ins top48 atl1 at he
  rw [if_neg (by omega)] at he
  have h7 : ¬ v % 8 = 7 := by
    unfold prt top48 at hp
    simp at hp
    omega
  rw [if_neg h7] at he
  unfold argsL at a0 hv hr
  by_cases h1 : v % 8 = 1
  · rw [if_pos h1] at he
    simp at he
    obtain ⟨rfl, rfl⟩ := he
    simp at hv
    omega
  · rw [if_neg h1] at he
    by_cases h2 : v % 8 = 2
    · rw [if_pos h2] at he
      simp at he
      obtain ⟨rfl, rfl⟩ := he
      simp at hv
      omega
    · rw [if_neg h2] at he
      by_cases h5 : v % 8 = 5
      · rw [if_pos h5] at he
        simp at he
        obtain ⟨rfl, rfl⟩ := he
        simp at hv
        omega
      · rw [if_neg h5] at he
        simp at he
        obtain ⟨rfl, rfl⟩ := he
        rw [if_neg h1] at hv
        omega

set_option maxHeartbeats 8000000 in
set_option maxRecDepth 100000 in
theorem CodeWord_core (k a v : Int) (v0 : 0 ≤ v) (v1 : v < 18446744073709551616) (w : World) :
    Calls Try.prog 5 #[.agg #[.int .i64 k, .int .i64 a], .int .u64 v] w fun e w' => e = .returned (.bool true) ∧ Bw w w' := by
  have HB := Aside0.mk (Bw.refl w)
  by_cases hk1 : k = 1
  · subst hk1
    have hL : argsL 1 = 1 := rfl
    have hM : argsM 1 = 16 := rfl
    by_cases h3 : a < 1
    · have d3 : decide (a < 1) = true := by simpa using h3
      have HE := Aside0.mk (show wordW (1 : Int) a = 0 ∧ wordE (1 : Int) a = 5 by
        unfold wordW wordE
        rw [if_neg (show ¬ ((1 : Int) < 0 ∨ 6 < (1 : Int)) by omega), if_neg (show ¬ ((1 : Int) < 0 ∨ 6 < (1 : Int)) by omega), if_pos (show a < argsL (1 : Int) ∨ argsM (1 : Int) < a by rw [hL]; exact .inl h3), if_pos (show a < argsL (1 : Int) ∨ argsM (1 : Int) < a by rw [hL]; exact .inl h3)]
        exact ⟨rfl, rfl⟩)
      clear h3 hL hM
      go_enter Try.func5, Try.ntmps5
      have L0 := Blk.new w #[.int .i64 (1 : Int), .int .i64 a] 48
      have q0 := L0.cell 0 (.int .i64 (1 : Int)) rfl
      have q1 := L0.cell 1 (.int .i64 a) rfl
      go_wp2_with fail
      refine (Word_calls (1 : Int) a _).mono ?_
      rintro e w1 ⟨rfl, hb1⟩
      rw [HE.out.1, HE.out.2]
      have L1 := L0.bw hb1
      have q0 := L1.cell 0 (.int .i64 (1 : Int)) rfl
      have q1 := L1.cell 1 (.int .i64 a) rfl
      have HW1 := Aside0.mk ((HB.out.alloc _).trans hb1)
      go_wp2_with fail

      refine (dawake_calls _).mono ?_
      rintro e w2 ⟨rfl, hb2⟩
      go_wp2_with fail
      go_ret
      exact ⟨rfl, HW1.out.trans hb2⟩
    · have d3 : decide (a < 1) = false := by simpa using h3
      by_cases h4 : 16 < a
      · have d4 : decide (16 < a) = true := by simpa using h4
        have HE := Aside0.mk (show wordW (1 : Int) a = 0 ∧ wordE (1 : Int) a = 5 by
          unfold wordW wordE
          rw [if_neg (show ¬ ((1 : Int) < 0 ∨ 6 < (1 : Int)) by omega), if_neg (show ¬ ((1 : Int) < 0 ∨ 6 < (1 : Int)) by omega), if_pos (show a < argsL (1 : Int) ∨ argsM (1 : Int) < a by rw [hM]; exact .inr h4), if_pos (show a < argsL (1 : Int) ∨ argsM (1 : Int) < a by rw [hM]; exact .inr h4)]
          exact ⟨rfl, rfl⟩)
        clear h3 h4 hL hM
        go_enter Try.func5, Try.ntmps5
        have L0 := Blk.new w #[.int .i64 (1 : Int), .int .i64 a] 48
        have q0 := L0.cell 0 (.int .i64 (1 : Int)) rfl
        have q1 := L0.cell 1 (.int .i64 a) rfl
        go_wp2_with fail
        refine (Word_calls (1 : Int) a _).mono ?_
        rintro e w1 ⟨rfl, hb1⟩
        rw [HE.out.1, HE.out.2]
        have L1 := L0.bw hb1
        have q0 := L1.cell 0 (.int .i64 (1 : Int)) rfl
        have q1 := L1.cell 1 (.int .i64 a) rfl
        have HW1 := Aside0.mk ((HB.out.alloc _).trans hb1)
        go_wp2_with fail

        refine (dawake_calls _).mono ?_
        rintro e w2 ⟨rfl, hb2⟩
        go_wp2_with fail
        go_ret
        exact ⟨rfl, HW1.out.trans hb2⟩
      · have d4 : decide (16 < a) = false := by simpa using h4
        have he : wordE (1 : Int) a = 0 := by
          unfold wordE
          rw [if_neg (show ¬ ((1 : Int) < 0 ∨ 6 < (1 : Int)) by omega), if_neg (show ¬ (a < argsL (1 : Int) ∨ argsM (1 : Int) < a) by rw [hL, hM]; omega)]
        have HPv := Aside0.mk (fun W => Parts_calls v v0 v1 W)
        by_cases hv : v < wordW (1 : Int) a
        · have dv : decide (v < wordW (1 : Int) a) = true := by simpa using hv
          have HV := Aside0.mk hv
          cases hp : prt v
          · have HPp := Aside0.mk hp
            rw [hp] at HPv
            obtain ⟨⟨y0, y1⟩, hy⟩ : ∃ y, y = insR v 5000 := ⟨_, rfl⟩
            have HY := Aside0.mk hy
            have hne := fun h => word_least (1 : Int) a v he v0 hv hp (hy.symm.trans h)
            have dy : (y0 == (1 : Int) && y1 == a) = false := by
              apply Classical.byContradiction
              intro hc
              simp at hc
              exact hne (by rw [hc.1, hc.2])
            clear hne hy hp hv
            obtain ⟨p1, p2, p3, p4⟩ := word_ok (1 : Int) a he
            have HE := Aside0.mk he
            have HLe := Aside0.mk (fun h1 h2 h3 => word_least (1 : Int) a v he v0 h1 h2 h3)
            obtain ⟨x, hx⟩ : ∃ x, x = wordW (1 : Int) a := ⟨_, rfl⟩
            rw [← hx] at p1 p2 p3 p4 HLe dv
            have HX := Aside0.mk hx
            have P1 := Aside0.mk p1
            have P2 := Aside0.mk p2
            have p5 : x < 18446744073709551616 := by omega
            clear hx p1 p2 p4 he

            go_enter Try.func5, Try.ntmps5
            have L0 := Blk.new w #[.int .i64 (1 : Int), .int .i64 a] 48
            have q0 := L0.cell 0 (.int .i64 (1 : Int)) rfl
            have q1 := L0.cell 1 (.int .i64 a) rfl
            go_wp2_with fail
            refine (Word_calls (1 : Int) a _).mono ?_
            rintro e w1 ⟨rfl, hb1⟩
            rw [HE.out, ← HX.out]
            have L1 := L0.bw hb1
            have q0 := L1.cell 0 (.int .i64 (1 : Int)) rfl
            have q1 := L1.cell 1 (.int .i64 a) rfl
            have HW1 := Aside0.mk ((HB.out.alloc _).trans hb1)
            go_wp2_with fail

            refine (Instr_calls x 5000 p3 p5 (by omega) _).mono ?_
            rintro e w2 ⟨rfl, hb2⟩
            rw [P1.out, P2.out]
            have L2 := (L1.bw hb2).alloc (.cells #[.int .i64 (1 : Int), .int .i64 a] 48)
            have N2 := Blk.new w2 #[.int .i64 (1 : Int), .int .i64 a] 48
            have HW2 := Aside0.mk ((HW1.out.trans hb2).alloc (.cells #[.int .i64 (1 : Int), .int .i64 a] 48))
            obtain ⟨w3, hw3⟩ : ∃ w3, w3 = N2.world := ⟨_, rfl⟩
            simp only [Blk.world] at hw3
            go_wp2_with fail
            rw [← hw3] at L2 N2 HW2 ⊢
            clear hw3
            have q0 : ∀ p : BwW w3, p.W.cell? ⟨w.heap.size, 0, none⟩ = some (.int .i64 (1 : Int)) := fun p => p.cell (L2.cell 0 _ rfl)
            have q1 : ∀ p : BwW w3, p.W.cell? ⟨w.heap.size, 1, none⟩ = some (.int .i64 a) := fun p => p.cell (L2.cell 1 _ rfl)

            refine wp_region_bw (by kernel_rfl) (by kernel_rfl) ?_
            repeat (first | go_big_quiet_skip | (go_big_quiet_want; go_big_quiet_op; first | go_big_quiet_on | go_big_quiet_call (first | (go_at_call 30; exact qcall (HPv.out _)) | (go_at_call 31; exact qcall (refInstr_at HY.out.symm v0 v1 (by omega) _)))))
            refine wpQuiet_nil ?_
            rintro w4 ⟨⟨_, hb4⟩, rfl⟩

            have L4 := L2.bw hb4
            have N4 := N2.bw hb4
            have HW4 := Aside0.mk (HW2.out.trans hb4)
            go_wp2_with fail
            refine (dawake_calls _).mono ?_
            rintro e w5 ⟨rfl, hb5⟩
            have L5 := L4.bw hb5
            have N5 := N4.bw hb5
            have q0 := L5.cell 0 (.int .i64 (1 : Int)) rfl
            have q1 := L5.cell 1 (.int .i64 a) rfl
            have n0 := N5.cell 0 (.int .i64 (1 : Int)) rfl
            have n1 := N5.cell 1 (.int .i64 a) rfl
            go_wp2_with fail
            go_ret
            exact ⟨rfl, HW4.out.trans hb5⟩
          · rw [hp] at HPv
            clear hp hv
            obtain ⟨p1, p2, p3, p4⟩ := word_ok (1 : Int) a he
            have HE := Aside0.mk he
            have HLe := Aside0.mk (fun h1 h2 h3 => word_least (1 : Int) a v he v0 h1 h2 h3)
            obtain ⟨x, hx⟩ : ∃ x, x = wordW (1 : Int) a := ⟨_, rfl⟩
            rw [← hx] at p1 p2 p3 p4 HLe dv
            have HX := Aside0.mk hx
            have P1 := Aside0.mk p1
            have P2 := Aside0.mk p2
            have p5 : x < 18446744073709551616 := by omega
            clear hx p1 p2 p4 he

            go_enter Try.func5, Try.ntmps5
            have L0 := Blk.new w #[.int .i64 (1 : Int), .int .i64 a] 48
            have q0 := L0.cell 0 (.int .i64 (1 : Int)) rfl
            have q1 := L0.cell 1 (.int .i64 a) rfl
            go_wp2_with fail
            refine (Word_calls (1 : Int) a _).mono ?_
            rintro e w1 ⟨rfl, hb1⟩
            rw [HE.out, ← HX.out]
            have L1 := L0.bw hb1
            have q0 := L1.cell 0 (.int .i64 (1 : Int)) rfl
            have q1 := L1.cell 1 (.int .i64 a) rfl
            have HW1 := Aside0.mk ((HB.out.alloc _).trans hb1)
            go_wp2_with fail

            refine (Instr_calls x 5000 p3 p5 (by omega) _).mono ?_
            rintro e w2 ⟨rfl, hb2⟩
            rw [P1.out, P2.out]
            have L2 := (L1.bw hb2).alloc (.cells #[.int .i64 (1 : Int), .int .i64 a] 48)
            have N2 := Blk.new w2 #[.int .i64 (1 : Int), .int .i64 a] 48
            have HW2 := Aside0.mk ((HW1.out.trans hb2).alloc (.cells #[.int .i64 (1 : Int), .int .i64 a] 48))
            obtain ⟨w3, hw3⟩ : ∃ w3, w3 = N2.world := ⟨_, rfl⟩
            simp only [Blk.world] at hw3
            go_wp2_with fail
            rw [← hw3] at L2 N2 HW2 ⊢
            clear hw3
            have q0 : ∀ p : BwW w3, p.W.cell? ⟨w.heap.size, 0, none⟩ = some (.int .i64 (1 : Int)) := fun p => p.cell (L2.cell 0 _ rfl)
            have q1 : ∀ p : BwW w3, p.W.cell? ⟨w.heap.size, 1, none⟩ = some (.int .i64 a) := fun p => p.cell (L2.cell 1 _ rfl)

            refine wp_region_bw (by kernel_rfl) (by kernel_rfl) ?_
            repeat (first | go_big_quiet_skip | (go_big_quiet_want; go_big_quiet_op; first | go_big_quiet_on | go_big_quiet_call (first | (go_at_call 30; exact qcall (HPv.out _)) | (go_at_call 31; exact qcall (refInstr_calls v 5000 v0 v1 (by omega) _)))))
            refine wpQuiet_nil ?_
            rintro w4 ⟨⟨_, hb4⟩, rfl⟩

            have L4 := L2.bw hb4
            have N4 := N2.bw hb4
            have HW4 := Aside0.mk (HW2.out.trans hb4)
            go_wp2_with fail
            refine (dawake_calls _).mono ?_
            rintro e w5 ⟨rfl, hb5⟩
            have L5 := L4.bw hb5
            have N5 := N4.bw hb5
            have q0 := L5.cell 0 (.int .i64 (1 : Int)) rfl
            have q1 := L5.cell 1 (.int .i64 a) rfl
            have n0 := N5.cell 0 (.int .i64 (1 : Int)) rfl
            have n1 := N5.cell 1 (.int .i64 a) rfl
            go_wp2_with fail
            go_ret
            exact ⟨rfl, HW4.out.trans hb5⟩
        · have dv : decide (v < wordW (1 : Int) a) = false := by simpa using hv
          clear hv
          obtain ⟨p1, p2, p3, p4⟩ := word_ok (1 : Int) a he
          have HE := Aside0.mk he
          have HLe := Aside0.mk (fun h1 h2 h3 => word_least (1 : Int) a v he v0 h1 h2 h3)
          obtain ⟨x, hx⟩ : ∃ x, x = wordW (1 : Int) a := ⟨_, rfl⟩
          rw [← hx] at p1 p2 p3 p4 HLe dv
          have HX := Aside0.mk hx
          have P1 := Aside0.mk p1
          have P2 := Aside0.mk p2
          have p5 : x < 18446744073709551616 := by omega
          clear hx p1 p2 p4 he

          go_enter Try.func5, Try.ntmps5
          have L0 := Blk.new w #[.int .i64 (1 : Int), .int .i64 a] 48
          have q0 := L0.cell 0 (.int .i64 (1 : Int)) rfl
          have q1 := L0.cell 1 (.int .i64 a) rfl
          go_wp2_with fail
          refine (Word_calls (1 : Int) a _).mono ?_
          rintro e w1 ⟨rfl, hb1⟩
          rw [HE.out, ← HX.out]
          have L1 := L0.bw hb1
          have q0 := L1.cell 0 (.int .i64 (1 : Int)) rfl
          have q1 := L1.cell 1 (.int .i64 a) rfl
          have HW1 := Aside0.mk ((HB.out.alloc _).trans hb1)
          go_wp2_with fail

          refine (Instr_calls x 5000 p3 p5 (by omega) _).mono ?_
          rintro e w2 ⟨rfl, hb2⟩
          rw [P1.out, P2.out]
          have L2 := (L1.bw hb2).alloc (.cells #[.int .i64 (1 : Int), .int .i64 a] 48)
          have N2 := Blk.new w2 #[.int .i64 (1 : Int), .int .i64 a] 48
          have HW2 := Aside0.mk ((HW1.out.trans hb2).alloc (.cells #[.int .i64 (1 : Int), .int .i64 a] 48))
          obtain ⟨w3, hw3⟩ : ∃ w3, w3 = N2.world := ⟨_, rfl⟩
          simp only [Blk.world] at hw3
          go_wp2_with fail
          rw [← hw3] at L2 N2 HW2 ⊢
          clear hw3
          have q0 : ∀ p : BwW w3, p.W.cell? ⟨w.heap.size, 0, none⟩ = some (.int .i64 (1 : Int)) := fun p => p.cell (L2.cell 0 _ rfl)
          have q1 : ∀ p : BwW w3, p.W.cell? ⟨w.heap.size, 1, none⟩ = some (.int .i64 a) := fun p => p.cell (L2.cell 1 _ rfl)

          refine wp_region_bw (by kernel_rfl) (by kernel_rfl) ?_
          repeat (first | go_big_quiet_skip | (go_big_quiet_want; go_big_quiet_op; first | go_big_quiet_on | go_big_quiet_call (first | (go_at_call 30; exact qcall (HPv.out _)) | (go_at_call 31; exact qcall (refInstr_calls v 5000 v0 v1 (by omega) _)))))
          refine wpQuiet_nil ?_
          rintro w4 ⟨⟨_, hb4⟩, rfl⟩

          have L4 := L2.bw hb4
          have N4 := N2.bw hb4
          have HW4 := Aside0.mk (HW2.out.trans hb4)
          go_wp2_with fail
          refine (dawake_calls _).mono ?_
          rintro e w5 ⟨rfl, hb5⟩
          have L5 := L4.bw hb5
          have N5 := N4.bw hb5
          have q0 := L5.cell 0 (.int .i64 (1 : Int)) rfl
          have q1 := L5.cell 1 (.int .i64 a) rfl
          have n0 := N5.cell 0 (.int .i64 (1 : Int)) rfl
          have n1 := N5.cell 1 (.int .i64 a) rfl
          go_wp2_with fail
          go_ret
          exact ⟨rfl, HW4.out.trans hb5⟩
  · have e1 : (k == 1) = false := by simpa using hk1
    by_cases hk2 : k = 2
    · subst hk2
      have hL : argsL 2 = 0 := rfl
      have hM : argsM 2 = 4096 := rfl
      by_cases h3 : a < 0
      · have d3 : decide (a < 0) = true := by simpa using h3
        have HE := Aside0.mk (show wordW (2 : Int) a = 0 ∧ wordE (2 : Int) a = 5 by
          unfold wordW wordE
          rw [if_neg (show ¬ ((2 : Int) < 0 ∨ 6 < (2 : Int)) by omega), if_neg (show ¬ ((2 : Int) < 0 ∨ 6 < (2 : Int)) by omega), if_pos (show a < argsL (2 : Int) ∨ argsM (2 : Int) < a by rw [hL]; exact .inl h3), if_pos (show a < argsL (2 : Int) ∨ argsM (2 : Int) < a by rw [hL]; exact .inl h3)]
          exact ⟨rfl, rfl⟩)
        clear h3 hL hM
        go_enter Try.func5, Try.ntmps5
        have L0 := Blk.new w #[.int .i64 (2 : Int), .int .i64 a] 48
        have q0 := L0.cell 0 (.int .i64 (2 : Int)) rfl
        have q1 := L0.cell 1 (.int .i64 a) rfl
        go_wp2_with fail
        refine (Word_calls (2 : Int) a _).mono ?_
        rintro e w1 ⟨rfl, hb1⟩
        rw [HE.out.1, HE.out.2]
        have L1 := L0.bw hb1
        have q0 := L1.cell 0 (.int .i64 (2 : Int)) rfl
        have q1 := L1.cell 1 (.int .i64 a) rfl
        have HW1 := Aside0.mk ((HB.out.alloc _).trans hb1)
        go_wp2_with fail

        refine (dawake_calls _).mono ?_
        rintro e w2 ⟨rfl, hb2⟩
        go_wp2_with fail
        go_ret
        exact ⟨rfl, HW1.out.trans hb2⟩
      · have d3 : decide (a < 0) = false := by simpa using h3
        by_cases h4 : 4096 < a
        · have d4 : decide (4096 < a) = true := by simpa using h4
          have HE := Aside0.mk (show wordW (2 : Int) a = 0 ∧ wordE (2 : Int) a = 5 by
            unfold wordW wordE
            rw [if_neg (show ¬ ((2 : Int) < 0 ∨ 6 < (2 : Int)) by omega), if_neg (show ¬ ((2 : Int) < 0 ∨ 6 < (2 : Int)) by omega), if_pos (show a < argsL (2 : Int) ∨ argsM (2 : Int) < a by rw [hM]; exact .inr h4), if_pos (show a < argsL (2 : Int) ∨ argsM (2 : Int) < a by rw [hM]; exact .inr h4)]
            exact ⟨rfl, rfl⟩)
          clear h3 h4 hL hM
          go_enter Try.func5, Try.ntmps5
          have L0 := Blk.new w #[.int .i64 (2 : Int), .int .i64 a] 48
          have q0 := L0.cell 0 (.int .i64 (2 : Int)) rfl
          have q1 := L0.cell 1 (.int .i64 a) rfl
          go_wp2_with fail
          refine (Word_calls (2 : Int) a _).mono ?_
          rintro e w1 ⟨rfl, hb1⟩
          rw [HE.out.1, HE.out.2]
          have L1 := L0.bw hb1
          have q0 := L1.cell 0 (.int .i64 (2 : Int)) rfl
          have q1 := L1.cell 1 (.int .i64 a) rfl
          have HW1 := Aside0.mk ((HB.out.alloc _).trans hb1)
          go_wp2_with fail

          refine (dawake_calls _).mono ?_
          rintro e w2 ⟨rfl, hb2⟩
          go_wp2_with fail
          go_ret
          exact ⟨rfl, HW1.out.trans hb2⟩
        · have d4 : decide (4096 < a) = false := by simpa using h4
          have he : wordE (2 : Int) a = 0 := by
            unfold wordE
            rw [if_neg (show ¬ ((2 : Int) < 0 ∨ 6 < (2 : Int)) by omega), if_neg (show ¬ (a < argsL (2 : Int) ∨ argsM (2 : Int) < a) by rw [hL, hM]; omega)]
          have HPv := Aside0.mk (fun W => Parts_calls v v0 v1 W)
          by_cases hv : v < wordW (2 : Int) a
          · have dv : decide (v < wordW (2 : Int) a) = true := by simpa using hv
            have HV := Aside0.mk hv
            cases hp : prt v
            · have HPp := Aside0.mk hp
              rw [hp] at HPv
              obtain ⟨⟨y0, y1⟩, hy⟩ : ∃ y, y = insR v 5000 := ⟨_, rfl⟩
              have HY := Aside0.mk hy
              have hne := fun h => word_least (2 : Int) a v he v0 hv hp (hy.symm.trans h)
              have dy : (y0 == (2 : Int) && y1 == a) = false := by
                apply Classical.byContradiction
                intro hc
                simp at hc
                exact hne (by rw [hc.1, hc.2])
              clear hne hy hp hv
              obtain ⟨p1, p2, p3, p4⟩ := word_ok (2 : Int) a he
              have HE := Aside0.mk he
              have HLe := Aside0.mk (fun h1 h2 h3 => word_least (2 : Int) a v he v0 h1 h2 h3)
              obtain ⟨x, hx⟩ : ∃ x, x = wordW (2 : Int) a := ⟨_, rfl⟩
              rw [← hx] at p1 p2 p3 p4 HLe dv
              have HX := Aside0.mk hx
              have P1 := Aside0.mk p1
              have P2 := Aside0.mk p2
              have p5 : x < 18446744073709551616 := by omega
              clear hx p1 p2 p4 he

              go_enter Try.func5, Try.ntmps5
              have L0 := Blk.new w #[.int .i64 (2 : Int), .int .i64 a] 48
              have q0 := L0.cell 0 (.int .i64 (2 : Int)) rfl
              have q1 := L0.cell 1 (.int .i64 a) rfl
              go_wp2_with fail
              refine (Word_calls (2 : Int) a _).mono ?_
              rintro e w1 ⟨rfl, hb1⟩
              rw [HE.out, ← HX.out]
              have L1 := L0.bw hb1
              have q0 := L1.cell 0 (.int .i64 (2 : Int)) rfl
              have q1 := L1.cell 1 (.int .i64 a) rfl
              have HW1 := Aside0.mk ((HB.out.alloc _).trans hb1)
              go_wp2_with fail

              refine (Instr_calls x 5000 p3 p5 (by omega) _).mono ?_
              rintro e w2 ⟨rfl, hb2⟩
              rw [P1.out, P2.out]
              have L2 := (L1.bw hb2).alloc (.cells #[.int .i64 (2 : Int), .int .i64 a] 48)
              have N2 := Blk.new w2 #[.int .i64 (2 : Int), .int .i64 a] 48
              have HW2 := Aside0.mk ((HW1.out.trans hb2).alloc (.cells #[.int .i64 (2 : Int), .int .i64 a] 48))
              obtain ⟨w3, hw3⟩ : ∃ w3, w3 = N2.world := ⟨_, rfl⟩
              simp only [Blk.world] at hw3
              go_wp2_with fail
              rw [← hw3] at L2 N2 HW2 ⊢
              clear hw3
              have q0 : ∀ p : BwW w3, p.W.cell? ⟨w.heap.size, 0, none⟩ = some (.int .i64 (2 : Int)) := fun p => p.cell (L2.cell 0 _ rfl)
              have q1 : ∀ p : BwW w3, p.W.cell? ⟨w.heap.size, 1, none⟩ = some (.int .i64 a) := fun p => p.cell (L2.cell 1 _ rfl)

              refine wp_region_bw (by kernel_rfl) (by kernel_rfl) ?_
              repeat (first | go_big_quiet_skip | (go_big_quiet_want; go_big_quiet_op; first | go_big_quiet_on | go_big_quiet_call (first | (go_at_call 30; exact qcall (HPv.out _)) | (go_at_call 31; exact qcall (refInstr_at HY.out.symm v0 v1 (by omega) _)))))
              refine wpQuiet_nil ?_
              rintro w4 ⟨⟨_, hb4⟩, rfl⟩

              have L4 := L2.bw hb4
              have N4 := N2.bw hb4
              have HW4 := Aside0.mk (HW2.out.trans hb4)
              go_wp2_with fail
              refine (dawake_calls _).mono ?_
              rintro e w5 ⟨rfl, hb5⟩
              have L5 := L4.bw hb5
              have N5 := N4.bw hb5
              have q0 := L5.cell 0 (.int .i64 (2 : Int)) rfl
              have q1 := L5.cell 1 (.int .i64 a) rfl
              have n0 := N5.cell 0 (.int .i64 (2 : Int)) rfl
              have n1 := N5.cell 1 (.int .i64 a) rfl
              go_wp2_with fail
              go_ret
              exact ⟨rfl, HW4.out.trans hb5⟩
            · rw [hp] at HPv
              clear hp hv
              obtain ⟨p1, p2, p3, p4⟩ := word_ok (2 : Int) a he
              have HE := Aside0.mk he
              have HLe := Aside0.mk (fun h1 h2 h3 => word_least (2 : Int) a v he v0 h1 h2 h3)
              obtain ⟨x, hx⟩ : ∃ x, x = wordW (2 : Int) a := ⟨_, rfl⟩
              rw [← hx] at p1 p2 p3 p4 HLe dv
              have HX := Aside0.mk hx
              have P1 := Aside0.mk p1
              have P2 := Aside0.mk p2
              have p5 : x < 18446744073709551616 := by omega
              clear hx p1 p2 p4 he

              go_enter Try.func5, Try.ntmps5
              have L0 := Blk.new w #[.int .i64 (2 : Int), .int .i64 a] 48
              have q0 := L0.cell 0 (.int .i64 (2 : Int)) rfl
              have q1 := L0.cell 1 (.int .i64 a) rfl
              go_wp2_with fail
              refine (Word_calls (2 : Int) a _).mono ?_
              rintro e w1 ⟨rfl, hb1⟩
              rw [HE.out, ← HX.out]
              have L1 := L0.bw hb1
              have q0 := L1.cell 0 (.int .i64 (2 : Int)) rfl
              have q1 := L1.cell 1 (.int .i64 a) rfl
              have HW1 := Aside0.mk ((HB.out.alloc _).trans hb1)
              go_wp2_with fail

              refine (Instr_calls x 5000 p3 p5 (by omega) _).mono ?_
              rintro e w2 ⟨rfl, hb2⟩
              rw [P1.out, P2.out]
              have L2 := (L1.bw hb2).alloc (.cells #[.int .i64 (2 : Int), .int .i64 a] 48)
              have N2 := Blk.new w2 #[.int .i64 (2 : Int), .int .i64 a] 48
              have HW2 := Aside0.mk ((HW1.out.trans hb2).alloc (.cells #[.int .i64 (2 : Int), .int .i64 a] 48))
              obtain ⟨w3, hw3⟩ : ∃ w3, w3 = N2.world := ⟨_, rfl⟩
              simp only [Blk.world] at hw3
              go_wp2_with fail
              rw [← hw3] at L2 N2 HW2 ⊢
              clear hw3
              have q0 : ∀ p : BwW w3, p.W.cell? ⟨w.heap.size, 0, none⟩ = some (.int .i64 (2 : Int)) := fun p => p.cell (L2.cell 0 _ rfl)
              have q1 : ∀ p : BwW w3, p.W.cell? ⟨w.heap.size, 1, none⟩ = some (.int .i64 a) := fun p => p.cell (L2.cell 1 _ rfl)

              refine wp_region_bw (by kernel_rfl) (by kernel_rfl) ?_
              repeat (first | go_big_quiet_skip | (go_big_quiet_want; go_big_quiet_op; first | go_big_quiet_on | go_big_quiet_call (first | (go_at_call 30; exact qcall (HPv.out _)) | (go_at_call 31; exact qcall (refInstr_calls v 5000 v0 v1 (by omega) _)))))
              refine wpQuiet_nil ?_
              rintro w4 ⟨⟨_, hb4⟩, rfl⟩

              have L4 := L2.bw hb4
              have N4 := N2.bw hb4
              have HW4 := Aside0.mk (HW2.out.trans hb4)
              go_wp2_with fail
              refine (dawake_calls _).mono ?_
              rintro e w5 ⟨rfl, hb5⟩
              have L5 := L4.bw hb5
              have N5 := N4.bw hb5
              have q0 := L5.cell 0 (.int .i64 (2 : Int)) rfl
              have q1 := L5.cell 1 (.int .i64 a) rfl
              have n0 := N5.cell 0 (.int .i64 (2 : Int)) rfl
              have n1 := N5.cell 1 (.int .i64 a) rfl
              go_wp2_with fail
              go_ret
              exact ⟨rfl, HW4.out.trans hb5⟩
          · have dv : decide (v < wordW (2 : Int) a) = false := by simpa using hv
            clear hv
            obtain ⟨p1, p2, p3, p4⟩ := word_ok (2 : Int) a he
            have HE := Aside0.mk he
            have HLe := Aside0.mk (fun h1 h2 h3 => word_least (2 : Int) a v he v0 h1 h2 h3)
            obtain ⟨x, hx⟩ : ∃ x, x = wordW (2 : Int) a := ⟨_, rfl⟩
            rw [← hx] at p1 p2 p3 p4 HLe dv
            have HX := Aside0.mk hx
            have P1 := Aside0.mk p1
            have P2 := Aside0.mk p2
            have p5 : x < 18446744073709551616 := by omega
            clear hx p1 p2 p4 he

            go_enter Try.func5, Try.ntmps5
            have L0 := Blk.new w #[.int .i64 (2 : Int), .int .i64 a] 48
            have q0 := L0.cell 0 (.int .i64 (2 : Int)) rfl
            have q1 := L0.cell 1 (.int .i64 a) rfl
            go_wp2_with fail
            refine (Word_calls (2 : Int) a _).mono ?_
            rintro e w1 ⟨rfl, hb1⟩
            rw [HE.out, ← HX.out]
            have L1 := L0.bw hb1
            have q0 := L1.cell 0 (.int .i64 (2 : Int)) rfl
            have q1 := L1.cell 1 (.int .i64 a) rfl
            have HW1 := Aside0.mk ((HB.out.alloc _).trans hb1)
            go_wp2_with fail

            refine (Instr_calls x 5000 p3 p5 (by omega) _).mono ?_
            rintro e w2 ⟨rfl, hb2⟩
            rw [P1.out, P2.out]
            have L2 := (L1.bw hb2).alloc (.cells #[.int .i64 (2 : Int), .int .i64 a] 48)
            have N2 := Blk.new w2 #[.int .i64 (2 : Int), .int .i64 a] 48
            have HW2 := Aside0.mk ((HW1.out.trans hb2).alloc (.cells #[.int .i64 (2 : Int), .int .i64 a] 48))
            obtain ⟨w3, hw3⟩ : ∃ w3, w3 = N2.world := ⟨_, rfl⟩
            simp only [Blk.world] at hw3
            go_wp2_with fail
            rw [← hw3] at L2 N2 HW2 ⊢
            clear hw3
            have q0 : ∀ p : BwW w3, p.W.cell? ⟨w.heap.size, 0, none⟩ = some (.int .i64 (2 : Int)) := fun p => p.cell (L2.cell 0 _ rfl)
            have q1 : ∀ p : BwW w3, p.W.cell? ⟨w.heap.size, 1, none⟩ = some (.int .i64 a) := fun p => p.cell (L2.cell 1 _ rfl)

            refine wp_region_bw (by kernel_rfl) (by kernel_rfl) ?_
            repeat (first | go_big_quiet_skip | (go_big_quiet_want; go_big_quiet_op; first | go_big_quiet_on | go_big_quiet_call (first | (go_at_call 30; exact qcall (HPv.out _)) | (go_at_call 31; exact qcall (refInstr_calls v 5000 v0 v1 (by omega) _)))))
            refine wpQuiet_nil ?_
            rintro w4 ⟨⟨_, hb4⟩, rfl⟩

            have L4 := L2.bw hb4
            have N4 := N2.bw hb4
            have HW4 := Aside0.mk (HW2.out.trans hb4)
            go_wp2_with fail
            refine (dawake_calls _).mono ?_
            rintro e w5 ⟨rfl, hb5⟩
            have L5 := L4.bw hb5
            have N5 := N4.bw hb5
            have q0 := L5.cell 0 (.int .i64 (2 : Int)) rfl
            have q1 := L5.cell 1 (.int .i64 a) rfl
            have n0 := N5.cell 0 (.int .i64 (2 : Int)) rfl
            have n1 := N5.cell 1 (.int .i64 a) rfl
            go_wp2_with fail
            go_ret
            exact ⟨rfl, HW4.out.trans hb5⟩
    · have e2 : (k == 2) = false := by simpa using hk2
      by_cases hk5 : k = 5
      · subst hk5
        have hL : argsL 5 = 0 := rfl
        have hM : argsM 5 = 65535 := rfl
        by_cases h3 : a < 0
        · have d3 : decide (a < 0) = true := by simpa using h3
          have HE := Aside0.mk (show wordW (5 : Int) a = 0 ∧ wordE (5 : Int) a = 5 by
            unfold wordW wordE
            rw [if_neg (show ¬ ((5 : Int) < 0 ∨ 6 < (5 : Int)) by omega), if_neg (show ¬ ((5 : Int) < 0 ∨ 6 < (5 : Int)) by omega), if_pos (show a < argsL (5 : Int) ∨ argsM (5 : Int) < a by rw [hL]; exact .inl h3), if_pos (show a < argsL (5 : Int) ∨ argsM (5 : Int) < a by rw [hL]; exact .inl h3)]
            exact ⟨rfl, rfl⟩)
          clear h3 hL hM
          go_enter Try.func5, Try.ntmps5
          have L0 := Blk.new w #[.int .i64 (5 : Int), .int .i64 a] 48
          have q0 := L0.cell 0 (.int .i64 (5 : Int)) rfl
          have q1 := L0.cell 1 (.int .i64 a) rfl
          go_wp2_with fail
          refine (Word_calls (5 : Int) a _).mono ?_
          rintro e w1 ⟨rfl, hb1⟩
          rw [HE.out.1, HE.out.2]
          have L1 := L0.bw hb1
          have q0 := L1.cell 0 (.int .i64 (5 : Int)) rfl
          have q1 := L1.cell 1 (.int .i64 a) rfl
          have HW1 := Aside0.mk ((HB.out.alloc _).trans hb1)
          go_wp2_with fail

          refine (dawake_calls _).mono ?_
          rintro e w2 ⟨rfl, hb2⟩
          go_wp2_with fail
          go_ret
          exact ⟨rfl, HW1.out.trans hb2⟩
        · have d3 : decide (a < 0) = false := by simpa using h3
          by_cases h4 : 65535 < a
          · have d4 : decide (65535 < a) = true := by simpa using h4
            have HE := Aside0.mk (show wordW (5 : Int) a = 0 ∧ wordE (5 : Int) a = 5 by
              unfold wordW wordE
              rw [if_neg (show ¬ ((5 : Int) < 0 ∨ 6 < (5 : Int)) by omega), if_neg (show ¬ ((5 : Int) < 0 ∨ 6 < (5 : Int)) by omega), if_pos (show a < argsL (5 : Int) ∨ argsM (5 : Int) < a by rw [hM]; exact .inr h4), if_pos (show a < argsL (5 : Int) ∨ argsM (5 : Int) < a by rw [hM]; exact .inr h4)]
              exact ⟨rfl, rfl⟩)
            clear h3 h4 hL hM
            go_enter Try.func5, Try.ntmps5
            have L0 := Blk.new w #[.int .i64 (5 : Int), .int .i64 a] 48
            have q0 := L0.cell 0 (.int .i64 (5 : Int)) rfl
            have q1 := L0.cell 1 (.int .i64 a) rfl
            go_wp2_with fail
            refine (Word_calls (5 : Int) a _).mono ?_
            rintro e w1 ⟨rfl, hb1⟩
            rw [HE.out.1, HE.out.2]
            have L1 := L0.bw hb1
            have q0 := L1.cell 0 (.int .i64 (5 : Int)) rfl
            have q1 := L1.cell 1 (.int .i64 a) rfl
            have HW1 := Aside0.mk ((HB.out.alloc _).trans hb1)
            go_wp2_with fail

            refine (dawake_calls _).mono ?_
            rintro e w2 ⟨rfl, hb2⟩
            go_wp2_with fail
            go_ret
            exact ⟨rfl, HW1.out.trans hb2⟩
          · have d4 : decide (65535 < a) = false := by simpa using h4
            have he : wordE (5 : Int) a = 0 := by
              unfold wordE
              rw [if_neg (show ¬ ((5 : Int) < 0 ∨ 6 < (5 : Int)) by omega), if_neg (show ¬ (a < argsL (5 : Int) ∨ argsM (5 : Int) < a) by rw [hL, hM]; omega)]
            have HPv := Aside0.mk (fun W => Parts_calls v v0 v1 W)
            by_cases hv : v < wordW (5 : Int) a
            · have dv : decide (v < wordW (5 : Int) a) = true := by simpa using hv
              have HV := Aside0.mk hv
              cases hp : prt v
              · have HPp := Aside0.mk hp
                rw [hp] at HPv
                obtain ⟨⟨y0, y1⟩, hy⟩ : ∃ y, y = insR v 5000 := ⟨_, rfl⟩
                have HY := Aside0.mk hy
                have hne := fun h => word_least (5 : Int) a v he v0 hv hp (hy.symm.trans h)
                have dy : (y0 == (5 : Int) && y1 == a) = false := by
                  apply Classical.byContradiction
                  intro hc
                  simp at hc
                  exact hne (by rw [hc.1, hc.2])
                clear hne hy hp hv
                obtain ⟨p1, p2, p3, p4⟩ := word_ok (5 : Int) a he
                have HE := Aside0.mk he
                have HLe := Aside0.mk (fun h1 h2 h3 => word_least (5 : Int) a v he v0 h1 h2 h3)
                obtain ⟨x, hx⟩ : ∃ x, x = wordW (5 : Int) a := ⟨_, rfl⟩
                rw [← hx] at p1 p2 p3 p4 HLe dv
                have HX := Aside0.mk hx
                have P1 := Aside0.mk p1
                have P2 := Aside0.mk p2
                have p5 : x < 18446744073709551616 := by omega
                clear hx p1 p2 p4 he

                go_enter Try.func5, Try.ntmps5
                have L0 := Blk.new w #[.int .i64 (5 : Int), .int .i64 a] 48
                have q0 := L0.cell 0 (.int .i64 (5 : Int)) rfl
                have q1 := L0.cell 1 (.int .i64 a) rfl
                go_wp2_with fail
                refine (Word_calls (5 : Int) a _).mono ?_
                rintro e w1 ⟨rfl, hb1⟩
                rw [HE.out, ← HX.out]
                have L1 := L0.bw hb1
                have q0 := L1.cell 0 (.int .i64 (5 : Int)) rfl
                have q1 := L1.cell 1 (.int .i64 a) rfl
                have HW1 := Aside0.mk ((HB.out.alloc _).trans hb1)
                go_wp2_with fail

                refine (Instr_calls x 5000 p3 p5 (by omega) _).mono ?_
                rintro e w2 ⟨rfl, hb2⟩
                rw [P1.out, P2.out]
                have L2 := (L1.bw hb2).alloc (.cells #[.int .i64 (5 : Int), .int .i64 a] 48)
                have N2 := Blk.new w2 #[.int .i64 (5 : Int), .int .i64 a] 48
                have HW2 := Aside0.mk ((HW1.out.trans hb2).alloc (.cells #[.int .i64 (5 : Int), .int .i64 a] 48))
                obtain ⟨w3, hw3⟩ : ∃ w3, w3 = N2.world := ⟨_, rfl⟩
                simp only [Blk.world] at hw3
                go_wp2_with fail
                rw [← hw3] at L2 N2 HW2 ⊢
                clear hw3
                have q0 : ∀ p : BwW w3, p.W.cell? ⟨w.heap.size, 0, none⟩ = some (.int .i64 (5 : Int)) := fun p => p.cell (L2.cell 0 _ rfl)
                have q1 : ∀ p : BwW w3, p.W.cell? ⟨w.heap.size, 1, none⟩ = some (.int .i64 a) := fun p => p.cell (L2.cell 1 _ rfl)

                refine wp_region_bw (by kernel_rfl) (by kernel_rfl) ?_
                repeat (first | go_big_quiet_skip | (go_big_quiet_want; go_big_quiet_op; first | go_big_quiet_on | go_big_quiet_call (first | (go_at_call 30; exact qcall (HPv.out _)) | (go_at_call 31; exact qcall (refInstr_at HY.out.symm v0 v1 (by omega) _)))))
                refine wpQuiet_nil ?_
                rintro w4 ⟨⟨_, hb4⟩, rfl⟩

                have L4 := L2.bw hb4
                have N4 := N2.bw hb4
                have HW4 := Aside0.mk (HW2.out.trans hb4)
                go_wp2_with fail
                refine (dawake_calls _).mono ?_
                rintro e w5 ⟨rfl, hb5⟩
                have L5 := L4.bw hb5
                have N5 := N4.bw hb5
                have q0 := L5.cell 0 (.int .i64 (5 : Int)) rfl
                have q1 := L5.cell 1 (.int .i64 a) rfl
                have n0 := N5.cell 0 (.int .i64 (5 : Int)) rfl
                have n1 := N5.cell 1 (.int .i64 a) rfl
                go_wp2_with fail
                go_ret
                exact ⟨rfl, HW4.out.trans hb5⟩
              · rw [hp] at HPv
                clear hp hv
                obtain ⟨p1, p2, p3, p4⟩ := word_ok (5 : Int) a he
                have HE := Aside0.mk he
                have HLe := Aside0.mk (fun h1 h2 h3 => word_least (5 : Int) a v he v0 h1 h2 h3)
                obtain ⟨x, hx⟩ : ∃ x, x = wordW (5 : Int) a := ⟨_, rfl⟩
                rw [← hx] at p1 p2 p3 p4 HLe dv
                have HX := Aside0.mk hx
                have P1 := Aside0.mk p1
                have P2 := Aside0.mk p2
                have p5 : x < 18446744073709551616 := by omega
                clear hx p1 p2 p4 he

                go_enter Try.func5, Try.ntmps5
                have L0 := Blk.new w #[.int .i64 (5 : Int), .int .i64 a] 48
                have q0 := L0.cell 0 (.int .i64 (5 : Int)) rfl
                have q1 := L0.cell 1 (.int .i64 a) rfl
                go_wp2_with fail
                refine (Word_calls (5 : Int) a _).mono ?_
                rintro e w1 ⟨rfl, hb1⟩
                rw [HE.out, ← HX.out]
                have L1 := L0.bw hb1
                have q0 := L1.cell 0 (.int .i64 (5 : Int)) rfl
                have q1 := L1.cell 1 (.int .i64 a) rfl
                have HW1 := Aside0.mk ((HB.out.alloc _).trans hb1)
                go_wp2_with fail

                refine (Instr_calls x 5000 p3 p5 (by omega) _).mono ?_
                rintro e w2 ⟨rfl, hb2⟩
                rw [P1.out, P2.out]
                have L2 := (L1.bw hb2).alloc (.cells #[.int .i64 (5 : Int), .int .i64 a] 48)
                have N2 := Blk.new w2 #[.int .i64 (5 : Int), .int .i64 a] 48
                have HW2 := Aside0.mk ((HW1.out.trans hb2).alloc (.cells #[.int .i64 (5 : Int), .int .i64 a] 48))
                obtain ⟨w3, hw3⟩ : ∃ w3, w3 = N2.world := ⟨_, rfl⟩
                simp only [Blk.world] at hw3
                go_wp2_with fail
                rw [← hw3] at L2 N2 HW2 ⊢
                clear hw3
                have q0 : ∀ p : BwW w3, p.W.cell? ⟨w.heap.size, 0, none⟩ = some (.int .i64 (5 : Int)) := fun p => p.cell (L2.cell 0 _ rfl)
                have q1 : ∀ p : BwW w3, p.W.cell? ⟨w.heap.size, 1, none⟩ = some (.int .i64 a) := fun p => p.cell (L2.cell 1 _ rfl)

                refine wp_region_bw (by kernel_rfl) (by kernel_rfl) ?_
                repeat (first | go_big_quiet_skip | (go_big_quiet_want; go_big_quiet_op; first | go_big_quiet_on | go_big_quiet_call (first | (go_at_call 30; exact qcall (HPv.out _)) | (go_at_call 31; exact qcall (refInstr_calls v 5000 v0 v1 (by omega) _)))))
                refine wpQuiet_nil ?_
                rintro w4 ⟨⟨_, hb4⟩, rfl⟩

                have L4 := L2.bw hb4
                have N4 := N2.bw hb4
                have HW4 := Aside0.mk (HW2.out.trans hb4)
                go_wp2_with fail
                refine (dawake_calls _).mono ?_
                rintro e w5 ⟨rfl, hb5⟩
                have L5 := L4.bw hb5
                have N5 := N4.bw hb5
                have q0 := L5.cell 0 (.int .i64 (5 : Int)) rfl
                have q1 := L5.cell 1 (.int .i64 a) rfl
                have n0 := N5.cell 0 (.int .i64 (5 : Int)) rfl
                have n1 := N5.cell 1 (.int .i64 a) rfl
                go_wp2_with fail
                go_ret
                exact ⟨rfl, HW4.out.trans hb5⟩
            · have dv : decide (v < wordW (5 : Int) a) = false := by simpa using hv
              clear hv
              obtain ⟨p1, p2, p3, p4⟩ := word_ok (5 : Int) a he
              have HE := Aside0.mk he
              have HLe := Aside0.mk (fun h1 h2 h3 => word_least (5 : Int) a v he v0 h1 h2 h3)
              obtain ⟨x, hx⟩ : ∃ x, x = wordW (5 : Int) a := ⟨_, rfl⟩
              rw [← hx] at p1 p2 p3 p4 HLe dv
              have HX := Aside0.mk hx
              have P1 := Aside0.mk p1
              have P2 := Aside0.mk p2
              have p5 : x < 18446744073709551616 := by omega
              clear hx p1 p2 p4 he

              go_enter Try.func5, Try.ntmps5
              have L0 := Blk.new w #[.int .i64 (5 : Int), .int .i64 a] 48
              have q0 := L0.cell 0 (.int .i64 (5 : Int)) rfl
              have q1 := L0.cell 1 (.int .i64 a) rfl
              go_wp2_with fail
              refine (Word_calls (5 : Int) a _).mono ?_
              rintro e w1 ⟨rfl, hb1⟩
              rw [HE.out, ← HX.out]
              have L1 := L0.bw hb1
              have q0 := L1.cell 0 (.int .i64 (5 : Int)) rfl
              have q1 := L1.cell 1 (.int .i64 a) rfl
              have HW1 := Aside0.mk ((HB.out.alloc _).trans hb1)
              go_wp2_with fail

              refine (Instr_calls x 5000 p3 p5 (by omega) _).mono ?_
              rintro e w2 ⟨rfl, hb2⟩
              rw [P1.out, P2.out]
              have L2 := (L1.bw hb2).alloc (.cells #[.int .i64 (5 : Int), .int .i64 a] 48)
              have N2 := Blk.new w2 #[.int .i64 (5 : Int), .int .i64 a] 48
              have HW2 := Aside0.mk ((HW1.out.trans hb2).alloc (.cells #[.int .i64 (5 : Int), .int .i64 a] 48))
              obtain ⟨w3, hw3⟩ : ∃ w3, w3 = N2.world := ⟨_, rfl⟩
              simp only [Blk.world] at hw3
              go_wp2_with fail
              rw [← hw3] at L2 N2 HW2 ⊢
              clear hw3
              have q0 : ∀ p : BwW w3, p.W.cell? ⟨w.heap.size, 0, none⟩ = some (.int .i64 (5 : Int)) := fun p => p.cell (L2.cell 0 _ rfl)
              have q1 : ∀ p : BwW w3, p.W.cell? ⟨w.heap.size, 1, none⟩ = some (.int .i64 a) := fun p => p.cell (L2.cell 1 _ rfl)

              refine wp_region_bw (by kernel_rfl) (by kernel_rfl) ?_
              repeat (first | go_big_quiet_skip | (go_big_quiet_want; go_big_quiet_op; first | go_big_quiet_on | go_big_quiet_call (first | (go_at_call 30; exact qcall (HPv.out _)) | (go_at_call 31; exact qcall (refInstr_calls v 5000 v0 v1 (by omega) _)))))
              refine wpQuiet_nil ?_
              rintro w4 ⟨⟨_, hb4⟩, rfl⟩

              have L4 := L2.bw hb4
              have N4 := N2.bw hb4
              have HW4 := Aside0.mk (HW2.out.trans hb4)
              go_wp2_with fail
              refine (dawake_calls _).mono ?_
              rintro e w5 ⟨rfl, hb5⟩
              have L5 := L4.bw hb5
              have N5 := N4.bw hb5
              have q0 := L5.cell 0 (.int .i64 (5 : Int)) rfl
              have q1 := L5.cell 1 (.int .i64 a) rfl
              have n0 := N5.cell 0 (.int .i64 (5 : Int)) rfl
              have n1 := N5.cell 1 (.int .i64 a) rfl
              go_wp2_with fail
              go_ret
              exact ⟨rfl, HW4.out.trans hb5⟩
      · have e5 : (k == 5) = false := by simpa using hk5
        have hL : argsL k = 0 := by unfold argsL; rw [if_neg hk1]
        have hM : argsM k = 0 := by unfold argsM; rw [if_neg hk1, if_neg hk2, if_neg hk5]
        clear hk1 hk2 hk5
        by_cases h1 : k < 0
        · have d1 : decide (k < 0) = true := by simpa using h1
          have HE := Aside0.mk (show wordW k a = 0 ∧ wordE k a = 1 by unfold wordW wordE; rw [if_pos (.inl h1), if_pos (.inl h1)]; exact ⟨rfl, rfl⟩)
          clear h1 hL hM
          go_enter Try.func5, Try.ntmps5
          have L0 := Blk.new w #[.int .i64 k, .int .i64 a] 48
          have q0 := L0.cell 0 (.int .i64 k) rfl
          have q1 := L0.cell 1 (.int .i64 a) rfl
          go_wp2_with fail
          refine (Word_calls k a _).mono ?_
          rintro e w1 ⟨rfl, hb1⟩
          rw [HE.out.1, HE.out.2]
          have L1 := L0.bw hb1
          have q0 := L1.cell 0 (.int .i64 k) rfl
          have q1 := L1.cell 1 (.int .i64 a) rfl
          have HW1 := Aside0.mk ((HB.out.alloc _).trans hb1)
          go_wp2_with fail

          refine (dawake_calls _).mono ?_
          rintro e w2 ⟨rfl, hb2⟩
          go_wp2_with fail
          go_ret
          exact ⟨rfl, HW1.out.trans hb2⟩
        · have d1 : decide (k < 0) = false := by simpa using h1
          by_cases h2 : 6 < k
          · have d2 : decide (6 < k) = true := by simpa using h2
            have HE := Aside0.mk (show wordW k a = 0 ∧ wordE k a = 1 by unfold wordW wordE; rw [if_pos (.inr h2), if_pos (.inr h2)]; exact ⟨rfl, rfl⟩)
            clear h1 h2 hL hM
            go_enter Try.func5, Try.ntmps5
            have L0 := Blk.new w #[.int .i64 k, .int .i64 a] 48
            have q0 := L0.cell 0 (.int .i64 k) rfl
            have q1 := L0.cell 1 (.int .i64 a) rfl
            go_wp2_with fail
            refine (Word_calls k a _).mono ?_
            rintro e w1 ⟨rfl, hb1⟩
            rw [HE.out.1, HE.out.2]
            have L1 := L0.bw hb1
            have q0 := L1.cell 0 (.int .i64 k) rfl
            have q1 := L1.cell 1 (.int .i64 a) rfl
            have HW1 := Aside0.mk ((HB.out.alloc _).trans hb1)
            go_wp2_with fail

            refine (dawake_calls _).mono ?_
            rintro e w2 ⟨rfl, hb2⟩
            go_wp2_with fail
            go_ret
            exact ⟨rfl, HW1.out.trans hb2⟩
          · have d2 : decide (6 < k) = false := by simpa using h2

            by_cases h3 : a < 0
            · have d3 : decide (a < 0) = true := by simpa using h3
              have HE := Aside0.mk (show wordW k a = 0 ∧ wordE k a = 5 by
                unfold wordW wordE
                rw [if_neg (show ¬ (k < 0 ∨ 6 < k) by omega), if_neg (show ¬ (k < 0 ∨ 6 < k) by omega), if_pos (show a < argsL k ∨ argsM k < a by rw [hL]; exact .inl h3), if_pos (show a < argsL k ∨ argsM k < a by rw [hL]; exact .inl h3)]
                exact ⟨rfl, rfl⟩)
              clear h3 hL hM
              go_enter Try.func5, Try.ntmps5
              have L0 := Blk.new w #[.int .i64 k, .int .i64 a] 48
              have q0 := L0.cell 0 (.int .i64 k) rfl
              have q1 := L0.cell 1 (.int .i64 a) rfl
              go_wp2_with fail
              refine (Word_calls k a _).mono ?_
              rintro e w1 ⟨rfl, hb1⟩
              rw [HE.out.1, HE.out.2]
              have L1 := L0.bw hb1
              have q0 := L1.cell 0 (.int .i64 k) rfl
              have q1 := L1.cell 1 (.int .i64 a) rfl
              have HW1 := Aside0.mk ((HB.out.alloc _).trans hb1)
              go_wp2_with fail

              refine (dawake_calls _).mono ?_
              rintro e w2 ⟨rfl, hb2⟩
              go_wp2_with fail
              go_ret
              exact ⟨rfl, HW1.out.trans hb2⟩
            · have d3 : decide (a < 0) = false := by simpa using h3
              by_cases h4 : 0 < a
              · have d4 : decide (0 < a) = true := by simpa using h4
                have HE := Aside0.mk (show wordW k a = 0 ∧ wordE k a = 5 by
                  unfold wordW wordE
                  rw [if_neg (show ¬ (k < 0 ∨ 6 < k) by omega), if_neg (show ¬ (k < 0 ∨ 6 < k) by omega), if_pos (show a < argsL k ∨ argsM k < a by rw [hM]; exact .inr h4), if_pos (show a < argsL k ∨ argsM k < a by rw [hM]; exact .inr h4)]
                  exact ⟨rfl, rfl⟩)
                clear h3 h4 hL hM
                go_enter Try.func5, Try.ntmps5
                have L0 := Blk.new w #[.int .i64 k, .int .i64 a] 48
                have q0 := L0.cell 0 (.int .i64 k) rfl
                have q1 := L0.cell 1 (.int .i64 a) rfl
                go_wp2_with fail
                refine (Word_calls k a _).mono ?_
                rintro e w1 ⟨rfl, hb1⟩
                rw [HE.out.1, HE.out.2]
                have L1 := L0.bw hb1
                have q0 := L1.cell 0 (.int .i64 k) rfl
                have q1 := L1.cell 1 (.int .i64 a) rfl
                have HW1 := Aside0.mk ((HB.out.alloc _).trans hb1)
                go_wp2_with fail

                refine (dawake_calls _).mono ?_
                rintro e w2 ⟨rfl, hb2⟩
                go_wp2_with fail
                go_ret
                exact ⟨rfl, HW1.out.trans hb2⟩
              · have d4 : decide (0 < a) = false := by simpa using h4
                have he : wordE k a = 0 := by
                  unfold wordE
                  rw [if_neg (show ¬ (k < 0 ∨ 6 < k) by omega), if_neg (show ¬ (a < argsL k ∨ argsM k < a) by rw [hL, hM]; omega)]
                have HPv := Aside0.mk (fun W => Parts_calls v v0 v1 W)
                by_cases hv : v < wordW k a
                · have dv : decide (v < wordW k a) = true := by simpa using hv
                  have HV := Aside0.mk hv
                  cases hp : prt v
                  · have HPp := Aside0.mk hp
                    rw [hp] at HPv
                    obtain ⟨⟨y0, y1⟩, hy⟩ : ∃ y, y = insR v 5000 := ⟨_, rfl⟩
                    have HY := Aside0.mk hy
                    have hne := fun h => word_least k a v he v0 hv hp (hy.symm.trans h)
                    have dy : (y0 == k && y1 == a) = false := by
                      apply Classical.byContradiction
                      intro hc
                      simp at hc
                      exact hne (by rw [hc.1, hc.2])
                    clear hne hy hp hv
                    obtain ⟨p1, p2, p3, p4⟩ := word_ok k a he
                    have HE := Aside0.mk he
                    have HLe := Aside0.mk (fun h1 h2 h3 => word_least k a v he v0 h1 h2 h3)
                    obtain ⟨x, hx⟩ : ∃ x, x = wordW k a := ⟨_, rfl⟩
                    rw [← hx] at p1 p2 p3 p4 HLe dv
                    have HX := Aside0.mk hx
                    have P1 := Aside0.mk p1
                    have P2 := Aside0.mk p2
                    have p5 : x < 18446744073709551616 := by omega
                    clear hx p1 p2 p4 he

                    go_enter Try.func5, Try.ntmps5
                    have L0 := Blk.new w #[.int .i64 k, .int .i64 a] 48
                    have q0 := L0.cell 0 (.int .i64 k) rfl
                    have q1 := L0.cell 1 (.int .i64 a) rfl
                    go_wp2_with fail
                    refine (Word_calls k a _).mono ?_
                    rintro e w1 ⟨rfl, hb1⟩
                    rw [HE.out, ← HX.out]
                    have L1 := L0.bw hb1
                    have q0 := L1.cell 0 (.int .i64 k) rfl
                    have q1 := L1.cell 1 (.int .i64 a) rfl
                    have HW1 := Aside0.mk ((HB.out.alloc _).trans hb1)
                    go_wp2_with fail

                    refine (Instr_calls x 5000 p3 p5 (by omega) _).mono ?_
                    rintro e w2 ⟨rfl, hb2⟩
                    rw [P1.out, P2.out]
                    have L2 := (L1.bw hb2).alloc (.cells #[.int .i64 k, .int .i64 a] 48)
                    have N2 := Blk.new w2 #[.int .i64 k, .int .i64 a] 48
                    have HW2 := Aside0.mk ((HW1.out.trans hb2).alloc (.cells #[.int .i64 k, .int .i64 a] 48))
                    obtain ⟨w3, hw3⟩ : ∃ w3, w3 = N2.world := ⟨_, rfl⟩
                    simp only [Blk.world] at hw3
                    go_wp2_with fail
                    rw [← hw3] at L2 N2 HW2 ⊢
                    clear hw3
                    have q0 : ∀ p : BwW w3, p.W.cell? ⟨w.heap.size, 0, none⟩ = some (.int .i64 k) := fun p => p.cell (L2.cell 0 _ rfl)
                    have q1 : ∀ p : BwW w3, p.W.cell? ⟨w.heap.size, 1, none⟩ = some (.int .i64 a) := fun p => p.cell (L2.cell 1 _ rfl)

                    refine wp_region_bw (by kernel_rfl) (by kernel_rfl) ?_
                    repeat (first | go_big_quiet_skip | (go_big_quiet_want; go_big_quiet_op; first | go_big_quiet_on | go_big_quiet_call (first | (go_at_call 30; exact qcall (HPv.out _)) | (go_at_call 31; exact qcall (refInstr_at HY.out.symm v0 v1 (by omega) _)))))
                    refine wpQuiet_nil ?_
                    rintro w4 ⟨⟨_, hb4⟩, rfl⟩

                    have L4 := L2.bw hb4
                    have N4 := N2.bw hb4
                    have HW4 := Aside0.mk (HW2.out.trans hb4)
                    go_wp2_with fail
                    refine (dawake_calls _).mono ?_
                    rintro e w5 ⟨rfl, hb5⟩
                    have L5 := L4.bw hb5
                    have N5 := N4.bw hb5
                    have q0 := L5.cell 0 (.int .i64 k) rfl
                    have q1 := L5.cell 1 (.int .i64 a) rfl
                    have n0 := N5.cell 0 (.int .i64 k) rfl
                    have n1 := N5.cell 1 (.int .i64 a) rfl
                    go_wp2_with fail
                    go_ret
                    exact ⟨rfl, HW4.out.trans hb5⟩
                  · rw [hp] at HPv
                    clear hp hv
                    obtain ⟨p1, p2, p3, p4⟩ := word_ok k a he
                    have HE := Aside0.mk he
                    have HLe := Aside0.mk (fun h1 h2 h3 => word_least k a v he v0 h1 h2 h3)
                    obtain ⟨x, hx⟩ : ∃ x, x = wordW k a := ⟨_, rfl⟩
                    rw [← hx] at p1 p2 p3 p4 HLe dv
                    have HX := Aside0.mk hx
                    have P1 := Aside0.mk p1
                    have P2 := Aside0.mk p2
                    have p5 : x < 18446744073709551616 := by omega
                    clear hx p1 p2 p4 he

                    go_enter Try.func5, Try.ntmps5
                    have L0 := Blk.new w #[.int .i64 k, .int .i64 a] 48
                    have q0 := L0.cell 0 (.int .i64 k) rfl
                    have q1 := L0.cell 1 (.int .i64 a) rfl
                    go_wp2_with fail
                    refine (Word_calls k a _).mono ?_
                    rintro e w1 ⟨rfl, hb1⟩
                    rw [HE.out, ← HX.out]
                    have L1 := L0.bw hb1
                    have q0 := L1.cell 0 (.int .i64 k) rfl
                    have q1 := L1.cell 1 (.int .i64 a) rfl
                    have HW1 := Aside0.mk ((HB.out.alloc _).trans hb1)
                    go_wp2_with fail

                    refine (Instr_calls x 5000 p3 p5 (by omega) _).mono ?_
                    rintro e w2 ⟨rfl, hb2⟩
                    rw [P1.out, P2.out]
                    have L2 := (L1.bw hb2).alloc (.cells #[.int .i64 k, .int .i64 a] 48)
                    have N2 := Blk.new w2 #[.int .i64 k, .int .i64 a] 48
                    have HW2 := Aside0.mk ((HW1.out.trans hb2).alloc (.cells #[.int .i64 k, .int .i64 a] 48))
                    obtain ⟨w3, hw3⟩ : ∃ w3, w3 = N2.world := ⟨_, rfl⟩
                    simp only [Blk.world] at hw3
                    go_wp2_with fail
                    rw [← hw3] at L2 N2 HW2 ⊢
                    clear hw3
                    have q0 : ∀ p : BwW w3, p.W.cell? ⟨w.heap.size, 0, none⟩ = some (.int .i64 k) := fun p => p.cell (L2.cell 0 _ rfl)
                    have q1 : ∀ p : BwW w3, p.W.cell? ⟨w.heap.size, 1, none⟩ = some (.int .i64 a) := fun p => p.cell (L2.cell 1 _ rfl)

                    refine wp_region_bw (by kernel_rfl) (by kernel_rfl) ?_
                    repeat (first | go_big_quiet_skip | (go_big_quiet_want; go_big_quiet_op; first | go_big_quiet_on | go_big_quiet_call (first | (go_at_call 30; exact qcall (HPv.out _)) | (go_at_call 31; exact qcall (refInstr_calls v 5000 v0 v1 (by omega) _)))))
                    refine wpQuiet_nil ?_
                    rintro w4 ⟨⟨_, hb4⟩, rfl⟩

                    have L4 := L2.bw hb4
                    have N4 := N2.bw hb4
                    have HW4 := Aside0.mk (HW2.out.trans hb4)
                    go_wp2_with fail
                    refine (dawake_calls _).mono ?_
                    rintro e w5 ⟨rfl, hb5⟩
                    have L5 := L4.bw hb5
                    have N5 := N4.bw hb5
                    have q0 := L5.cell 0 (.int .i64 k) rfl
                    have q1 := L5.cell 1 (.int .i64 a) rfl
                    have n0 := N5.cell 0 (.int .i64 k) rfl
                    have n1 := N5.cell 1 (.int .i64 a) rfl
                    go_wp2_with fail
                    go_ret
                    exact ⟨rfl, HW4.out.trans hb5⟩
                · have dv : decide (v < wordW k a) = false := by simpa using hv
                  clear hv
                  obtain ⟨p1, p2, p3, p4⟩ := word_ok k a he
                  have HE := Aside0.mk he
                  have HLe := Aside0.mk (fun h1 h2 h3 => word_least k a v he v0 h1 h2 h3)
                  obtain ⟨x, hx⟩ : ∃ x, x = wordW k a := ⟨_, rfl⟩
                  rw [← hx] at p1 p2 p3 p4 HLe dv
                  have HX := Aside0.mk hx
                  have P1 := Aside0.mk p1
                  have P2 := Aside0.mk p2
                  have p5 : x < 18446744073709551616 := by omega
                  clear hx p1 p2 p4 he

                  go_enter Try.func5, Try.ntmps5
                  have L0 := Blk.new w #[.int .i64 k, .int .i64 a] 48
                  have q0 := L0.cell 0 (.int .i64 k) rfl
                  have q1 := L0.cell 1 (.int .i64 a) rfl
                  go_wp2_with fail
                  refine (Word_calls k a _).mono ?_
                  rintro e w1 ⟨rfl, hb1⟩
                  rw [HE.out, ← HX.out]
                  have L1 := L0.bw hb1
                  have q0 := L1.cell 0 (.int .i64 k) rfl
                  have q1 := L1.cell 1 (.int .i64 a) rfl
                  have HW1 := Aside0.mk ((HB.out.alloc _).trans hb1)
                  go_wp2_with fail

                  refine (Instr_calls x 5000 p3 p5 (by omega) _).mono ?_
                  rintro e w2 ⟨rfl, hb2⟩
                  rw [P1.out, P2.out]
                  have L2 := (L1.bw hb2).alloc (.cells #[.int .i64 k, .int .i64 a] 48)
                  have N2 := Blk.new w2 #[.int .i64 k, .int .i64 a] 48
                  have HW2 := Aside0.mk ((HW1.out.trans hb2).alloc (.cells #[.int .i64 k, .int .i64 a] 48))
                  obtain ⟨w3, hw3⟩ : ∃ w3, w3 = N2.world := ⟨_, rfl⟩
                  simp only [Blk.world] at hw3
                  go_wp2_with fail
                  rw [← hw3] at L2 N2 HW2 ⊢
                  clear hw3
                  have q0 : ∀ p : BwW w3, p.W.cell? ⟨w.heap.size, 0, none⟩ = some (.int .i64 k) := fun p => p.cell (L2.cell 0 _ rfl)
                  have q1 : ∀ p : BwW w3, p.W.cell? ⟨w.heap.size, 1, none⟩ = some (.int .i64 a) := fun p => p.cell (L2.cell 1 _ rfl)

                  refine wp_region_bw (by kernel_rfl) (by kernel_rfl) ?_
                  repeat (first | go_big_quiet_skip | (go_big_quiet_want; go_big_quiet_op; first | go_big_quiet_on | go_big_quiet_call (first | (go_at_call 30; exact qcall (HPv.out _)) | (go_at_call 31; exact qcall (refInstr_calls v 5000 v0 v1 (by omega) _)))))
                  refine wpQuiet_nil ?_
                  rintro w4 ⟨⟨_, hb4⟩, rfl⟩

                  have L4 := L2.bw hb4
                  have N4 := N2.bw hb4
                  have HW4 := Aside0.mk (HW2.out.trans hb4)
                  go_wp2_with fail
                  refine (dawake_calls _).mono ?_
                  rintro e w5 ⟨rfl, hb5⟩
                  have L5 := L4.bw hb5
                  have N5 := N4.bw hb5
                  have q0 := L5.cell 0 (.int .i64 k) rfl
                  have q1 := L5.cell 1 (.int .i64 a) rfl
                  have n0 := N5.cell 0 (.int .i64 k) rfl
                  have n1 := N5.cell 1 (.int .i64 a) rfl
                  go_wp2_with fail
                  go_ret
                  exact ⟨rfl, HW4.out.trans hb5⟩
theorem CodeWord_walk (cs : List Value) (f : Fits [.int .i64, .int .i64] cs) (v : Int) (wv : (Lit.int .u64 v).wf = true) (w : World) :
    Calls Try.prog 5 #[.agg cs.toArray, .int .u64 v] w fun e w' => e = .returned (.bool true) ∧ Bw w w' := by
  obtain ⟨k, _, rfl, _, h1⟩ := f.int
  obtain ⟨a, _, rfl, _, h2⟩ := h1.int
  obtain rfl := h2.nil
  obtain ⟨v0, v1⟩ := wf_u64 wv
  exact CodeWord_core k a v v0 v1 w
end Go.Proofs.Ytclippikdfcgkaa.M
