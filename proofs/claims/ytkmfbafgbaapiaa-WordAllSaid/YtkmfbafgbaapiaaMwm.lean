/- The laws WordReads and WordWrites, walked: they answer true. Conditions: the arguments are of their kinds. -/
import Derived.Test.YtkmfbafgbaapiaaMwa
import Derived.Test.YtkmfbafgbaapiaaMw4
import Derived.Test.YtkmfbafgbaapiaaMr
import Derived.Test.YtkmfbafgbaapiaaMe
namespace Go.Proofs.Ytkmfbafgbaapiaa.M
open Go.RowKit Go.Proofs.YtkmfbafgbaapiaaW.PrintWords Go.Proofs.YtkmfbafgbaapiaaW.PrintLast Go.Proofs.YtkmfbafgbaapiaaW.PrintMore
attribute [local go_sem ↓] eqEntry
set_option linter.unusedVariables false
set_option linter.unusedSimpArgs false

theorem kindOf_range (c : Int) : 1 ≤ kindOf c ∧ kindOf c ≤ 4 := by unfold kindOf; (repeat' split) <;> omega
theorem rKind_cases (x : Int) : (x % 8 ≤ 3 ∧ rKind x = 1) ∨ ((x % 8 = 4 ∨ x % 8 = 7) ∧ rKind x = 2) ∨ (x % 8 = 5 ∧ rKind x = 3) ∨ (x % 8 = 6 ∧ rKind x = 4) := by
  have : rKind x = if x % 8 ≤ 3 then 1 else if x % 8 = 5 then 3 else if x % 8 = 6 then 4 else 2 := by simp [rKind, kindOf]
  rw [this]
  by_cases h1 : x % 8 ≤ 3
  · simp [h1]
  · by_cases h2 : x % 8 = 5
    · simp [h2]
    · by_cases h3 : x % 8 = 6
      · simp [h3]
      · simp [h1, h2, h3]; omega
theorem right_of_read (x n : Int) (h0 : 0 ≤ x) : rightB (rKind x) (rWho x n) n = true := by
  have hm := many_range n
  have r0 : 0 ≤ x / 8 % many n := Int.emod_nonneg _ (by omega)
  have r1 : x / 8 % many n < many n := Int.emod_lt_of_pos (x / 8) (by omega)
  rcases rKind_cases x with ⟨_, h⟩ | ⟨_, h⟩ | ⟨_, h⟩ | ⟨_, h⟩ <;> simp [rightB, rWho, h, whoB, codeOf] <;> omega

theorem Read_agg (x n : Int) (h0 : 0 ≤ x) (h1 : x < 18446744073709551616) (w : World) :
    Calls Try.prog 18 #[.int .u64 x, .int .i64 n] w fun e w' => e = .returned (.agg #[.int .i64 (rKind x), .int .i64 (rWho x n)]) ∧ Bw w w' := Read_calls x n h0 h1 w
theorem refRead_agg (x n : Int) (h0 : 0 ≤ x) (h1 : x < 18446744073709551616) (w : World) :
    Calls Try.prog 19 #[.int .u64 x, .int .i64 n] w fun e w' => e = .returned (.agg #[.int .i64 (rKind x), .int .i64 (rWho x n)]) ∧ Bw w w' := refRead_calls x n h0 h1 w
theorem Right_agg (k h n : Int) (w : World) :
    Calls Try.prog 20 #[.agg #[.int .i64 k, .int .i64 h], .int .i64 n] w fun e w' => e = .returned (.bool (rightB k h n)) ∧ Bw w w' := Right_calls k h n w
theorem refRight_agg (k h n : Int) (w : World) :
    Calls Try.prog 22 #[.agg #[.int .i64 k, .int .i64 h], .int .i64 n] w fun e w' => e = .returned (.bool (rightB k h n)) ∧ Bw w w' := refRight_calls k h n w
theorem Write_agg (k h : Int) (w : World) :
    Calls Try.prog 21 #[.agg #[.int .i64 k, .int .i64 h]] w fun e w' => e = .returned (.tuple #[.int .u64 (writeW k h), .int .i64 (writeE k h)]) ∧ Bw w w' := Write_calls k h w

set_option maxHeartbeats 1000000 in
theorem WordReads_walk (x : Int) (wx : (Lit.int .u64 x).wf = true) (n : Int) (wn : (Lit.int .i64 n).wf = true) (w : World) :
    Calls Try.prog 4 #[.int .u64 x, .int .i64 n] w fun e w' => e = .returned (.bool true) ∧ Bw w w' := by
  have HB := Aside0.mk (Bw.refl w)
  obtain ⟨h0, h1⟩ := wf_u64 wx
  have HR := Aside0.mk (right_of_read x n h0)
  clear wx wn
  go_enter Try.func4, Try.ntmps4
  go_wp2_with fail
  refine (Read_agg x n h0 h1 _).mono ?_
  rintro e w1 ⟨rfl, hb1⟩
  have c0 : ∀ p : BwW (w1.alloc (.cells #[.int .i64 (rKind x), .int .i64 (rWho x n)] 27)), p.W.cell? ⟨w1.heap.size, 0, none⟩ = some (.int .i64 (rKind x)) := fun p => p.cell ((Blk.new w1 _ _).cell 0 _ rfl)
  have c1 : ∀ p : BwW (w1.alloc (.cells #[.int .i64 (rKind x), .int .i64 (rWho x n)] 27)), p.W.cell? ⟨w1.heap.size, 1, none⟩ = some (.int .i64 (rWho x n)) := fun p => p.cell ((Blk.new w1 _ _).cell 1 _ rfl)
  go_wp2_with fail
  refine wp_region_bw (by kernel_rfl) (by kernel_rfl) ?_
  repeat (first | go_big_quiet_skip | (go_big_quiet_want; go_big_quiet_op; first | go_big_quiet_on | go_big_quiet_call (first | (go_at_call 15; exact qcall (wawake_calls _)) | (go_at_call 19; exact qcall (refRead_agg x n h0 h1 _)) | (go_at_call 20; exact qcall (Right_agg _ _ _ _)))))
  refine wpQuiet_nil ?_
  rintro w2 ⟨⟨_, hb2⟩, rfl⟩
  go_wp2_with fail
  go_ret
  exact ⟨ret_bool HR.out, ((HB.out.trans hb1).alloc _).trans hb2⟩

/-- No lesser word has the same entry. -/
theorem least (k h v : Int) (hr : rightB k h 256 = true) (v0 : 0 ≤ v) (hv : v < writeW k h) : ¬ (rKind v = k ∧ rWho v 256 = h) := by
  rintro ⟨h1, h2⟩
  have hm : many 256 = 256 := by decide
  have hW : writeW k h = h * 8 + codeOf k := by
    have : ¬ codeOf k < 0 := by simp [rightB] at hr; omega
    simp [writeW, hr, this]
  rw [hW] at hv
  rcases rKind_cases v with ⟨a, b⟩ | ⟨a, b⟩ | ⟨a, b⟩ | ⟨a, b⟩ <;> rw [b] at h1 <;> subst h1 <;> simp [rWho, b, whoB, hm] at h2 <;> simp [codeOf] at hv <;> omega
theorem read_write (k h : Int) (hr : rightB k h 256 = true) : 0 ≤ writeW k h ∧ writeW k h < 18446744073709551616 ∧ rKind (writeW k h) = k ∧ rWho (writeW k h) 256 = h ∧ writeE k h = 0 := by
  have hm : many 256 = 256 := by decide
  have h1 : ¬ codeOf k < 0 := by simp [rightB] at hr; omega
  have hW : writeW k h = h * 8 + codeOf k := by simp [writeW, hr, h1]
  have hE : writeE k h = 0 := by simp [writeE, hr, h1]
  have hh : 0 ≤ h ∧ h < 256 := by simp [rightB, hm] at hr; omega
  have hw : whoB k = true ∨ h = 0 := by simp [rightB] at hr; exact hr.2
  have hk : k = 1 ∨ k = 2 ∨ k = 3 ∨ k = 4 := by
    apply Classical.byContradiction
    intro hn
    apply h1
    simp [codeOf, show ¬ k = 1 by omega, show ¬ k = 2 by omega, show ¬ k = 3 by omega, show ¬ k = 4 by omega]
  have hc : codeOf k = 0 ∧ k = 1 ∨ codeOf k = 4 ∧ k = 2 ∨ codeOf k = 5 ∧ k = 3 ∨ codeOf k = 6 ∧ k = 4 := by
    rcases hk with rfl | rfl | rfl | rfl <;> simp [codeOf]
  have hx : ∃ x, x = h * 8 + codeOf k ∧ x % 8 = codeOf k ∧ x / 8 = h := ⟨_, rfl, by omega, by omega⟩
  obtain ⟨x, hx, hx8, hxh⟩ := hx
  rw [hW, ← hx]
  have hwh : rWho x 256 = if whoB (rKind x) = true then h else 0 := by unfold rWho; rw [hxh, hm]; split <;> omega
  have hkx : rKind x = k := by
    rcases rKind_cases x with ⟨a, b⟩ | ⟨a, b⟩ | ⟨a, b⟩ | ⟨a, b⟩ <;> omega
  refine ⟨by omega, by omega, hkx, ?_, hE⟩
  rw [hwh, hkx]
  rcases hw with hw | hw
  · rw [if_pos hw]
  · rw [hw]; split <;> rfl

set_option maxHeartbeats 2000000 in
theorem WordWrites_walk (cs : List Value) (hcs : Fits [.int .i64, .int .i64] cs) (v : Int) (wv : (Lit.int .u64 v).wf = true) (w : World) :
    Calls Try.prog 5 #[.agg cs.toArray, .int .u64 v] w fun e w' => e = .returned (.bool true) ∧ Bw w w' := by
  obtain ⟨k, _, rfl, wk, h1⟩ := hcs.int
  obtain ⟨h, _, rfl, wh, h2⟩ := h1.int
  obtain rfl := h2.nil
  clear hcs h1 h2
  have HB := Aside0.mk (Bw.refl w)
  obtain ⟨v0, v1⟩ := wf_u64 wv
  clear wk wh wv
  have B0 := Blk.new w #[.int .i64 k, .int .i64 h] 27
  by_cases e1 : codeOf k < 0
  · have HR := Aside0.mk (show writeW k h = 0 ∧ writeE k h = 1 by simp [writeW, writeE, e1])
    have hk : k < 1 ∨ 4 < k := by
      apply Classical.byContradiction
      intro hn
      have : k = 1 ∨ k = 2 ∨ k = 3 ∨ k = 4 := by omega
      rcases this with rfl | rfl | rfl | rfl <;> simp [codeOf] at e1
    clear e1
    rcases hk with hk | hk
    · have d1 : decide (k < 1) = true := by simpa using hk
      go_enter Try.func5, Try.ntmps5
      go_wp2_with fail
      refine (Write_agg k h _).mono ?_
      rintro e w1 ⟨rfl, hb1⟩
      rw [HR.out.1, HR.out.2]
      have B1 := B0.bw hb1
      have c0 := B1.cell 0 (.int .i64 k) rfl
      have c1 := B1.cell 1 (.int .i64 h) rfl
      go_wp2_with fail
      refine (wawake_calls _).mono ?_
      rintro e w2 ⟨rfl, hb2⟩
      go_wp2_with fail
      go_ret
      exact ⟨rfl, ((HB.out.alloc _).trans hb1).trans hb2⟩
    · have d1 : decide (k < 1) = false := by simp; omega
      have d2 : decide (4 < k) = true := by simpa using hk
      go_enter Try.func5, Try.ntmps5
      go_wp2_with fail
      refine (Write_agg k h _).mono ?_
      rintro e w1 ⟨rfl, hb1⟩
      rw [HR.out.1, HR.out.2]
      have B1 := B0.bw hb1
      have c0 := B1.cell 0 (.int .i64 k) rfl
      have c1 := B1.cell 1 (.int .i64 h) rfl
      go_wp2_with fail
      refine (wawake_calls _).mono ?_
      rintro e w2 ⟨rfl, hb2⟩
      go_wp2_with fail
      go_ret
      exact ⟨rfl, ((HB.out.alloc _).trans hb1).trans hb2⟩
  · have hk : 1 ≤ k ∧ k ≤ 4 := by
      apply Classical.byContradiction
      intro hn
      apply e1
      simp [codeOf, show ¬ k = 1 by omega, show ¬ k = 2 by omega, show ¬ k = 3 by omega, show ¬ k = 4 by omega]
    have d1 : decide (k < 1) = false := by simp; omega
    have d2 : decide (4 < k) = false := by simp; omega
    clear hk
    cases hr : rightB k h 256 with
    | false =>
      have HR := Aside0.mk (show writeW k h = 0 ∧ writeE k h = 5 by simp [writeW, writeE, e1, hr])
      have HX := Aside0.mk hr
      clear e1 hr
      go_enter Try.func5, Try.ntmps5
      go_wp2_with fail
      refine (Write_agg k h _).mono ?_
      rintro e w1 ⟨rfl, hb1⟩
      rw [HR.out.1, HR.out.2]
      have B1 := B0.bw hb1
      have c0 := B1.cell 0 (.int .i64 k) rfl
      have c1 := B1.cell 1 (.int .i64 h) rfl
      go_wp2_with fail
      refine (refRight_agg k h 256 _).mono ?_
      rintro e w2 ⟨rfl, hb2⟩
      rw [HX.out]
      go_wp2_with fail
      refine (wawake_calls _).mono ?_
      rintro e w3 ⟨rfl, hb3⟩
      go_wp2_with fail
      go_ret
      exact ⟨rfl, (((HB.out.alloc _).trans hb1).trans hb2).trans hb3⟩
    | true =>
      have HX := Aside0.mk hr
      have HR := Aside0.mk (read_write k h hr)
      have HL := Aside0.mk (least k h v hr v0)
      have x0 := HR.out.1
      have x1 := HR.out.2.1
      clear e1 hr
      obtain ⟨X, hX⟩ : ∃ X, X = writeW k h := ⟨_, rfl⟩
      rw [← hX] at HR HL x0 x1
      have HQ := Aside0.mk hX
      have HE : (rKind X == k && rWho X 256 == h) = true := by rw [HR.out.2.2.1, HR.out.2.2.2.1]; simp
      clear hX
      go_enter Try.func5, Try.ntmps5
      go_wp2_with fail
      refine (Write_agg k h _).mono ?_
      rintro e w1 ⟨rfl, hb1⟩
      rw [← HQ.out, HR.out.2.2.2.2]
      have B1 := B0.bw hb1
      have c0 := B1.cell 0 (.int .i64 k) rfl
      have c1 := B1.cell 1 (.int .i64 h) rfl
      go_wp2_with fail
      refine (refRight_agg k h 256 _).mono ?_
      rintro e w2 ⟨rfl, hb2⟩
      rw [HX.out]
      have B2 := B1.bw hb2
      have g0 : ∀ p : BwW w2, p.W.cell? ⟨w.heap.size, 0, none⟩ = some (.int .i64 k) := fun p => p.cell (B2.cell 0 _ rfl)
      have g1 : ∀ p : BwW w2, p.W.cell? ⟨w.heap.size, 1, none⟩ = some (.int .i64 h) := fun p => p.cell (B2.cell 1 _ rfl)
      by_cases hlt : v < X
      · have d3 : decide (v < X) = true := by simpa using hlt
        have HN : (rKind v == k && rWho v 256 == h) = false := by
          have := HL.out hlt
          simp only [Bool.and_eq_false_iff, beq_eq_false_iff_ne]
          omega
        clear hlt
        go_wp2_with fail
        refine wp_region_bw (by kernel_rfl) (by kernel_rfl) ?_
        repeat (first | go_big_quiet_skip | (go_big_quiet_want; go_big_quiet_op; first | go_big_quiet_on | go_big_quiet_call (exact qcall (refRead_agg v 256 v0 v1 _))))
        refine wpQuiet_nil ?_
        rintro w3 ⟨⟨_, hb3⟩, rfl⟩
        have B3 := B2.bw hb3
        have j0 : ∀ p : BwW w3, p.W.cell? ⟨w.heap.size, 0, none⟩ = some (.int .i64 k) := fun p => p.cell (B3.cell 0 _ rfl)
        have j1 : ∀ p : BwW w3, p.W.cell? ⟨w.heap.size, 1, none⟩ = some (.int .i64 h) := fun p => p.cell (B3.cell 1 _ rfl)
        go_wp2_with fail
        refine wp_region_bw (by kernel_rfl) (by kernel_rfl) ?_
        repeat (first | go_big_quiet_skip | (go_big_quiet_want; go_big_quiet_op; first | go_big_quiet_on | go_big_quiet_call (first | (go_at_call 15; exact qcall (wawake_calls _)) | (go_at_call 18; exact qcall (Read_agg X 256 x0 x1 _)))))
        refine wpQuiet_nil ?_
        rintro w4 ⟨⟨_, hb4⟩, rfl⟩
        go_wp2_with fail
        go_ret
        exact ⟨rfl, ((((HB.out.alloc _).trans hb1).trans hb2).trans hb3).trans hb4⟩
      · have d3 : decide (v < X) = false := by simpa using hlt
        clear hlt
        go_wp2_with fail
        refine wp_region_bw (by kernel_rfl) (by kernel_rfl) ?_
        repeat (first | go_big_quiet_skip | (go_big_quiet_want; go_big_quiet_op; first | go_big_quiet_on | go_big_quiet_call (exact qcall (refRead_agg v 256 v0 v1 _))))
        refine wpQuiet_nil ?_
        rintro w3 ⟨⟨_, hb3⟩, rfl⟩
        have B3 := B2.bw hb3
        have j0 : ∀ p : BwW w3, p.W.cell? ⟨w.heap.size, 0, none⟩ = some (.int .i64 k) := fun p => p.cell (B3.cell 0 _ rfl)
        have j1 : ∀ p : BwW w3, p.W.cell? ⟨w.heap.size, 1, none⟩ = some (.int .i64 h) := fun p => p.cell (B3.cell 1 _ rfl)
        go_wp2_with fail
        refine wp_region_bw (by kernel_rfl) (by kernel_rfl) ?_
        repeat (first | go_big_quiet_skip | (go_big_quiet_want; go_big_quiet_op; first | go_big_quiet_on | go_big_quiet_call (first | (go_at_call 15; exact qcall (wawake_calls _)) | (go_at_call 18; exact qcall (Read_agg X 256 x0 x1 _)))))
        refine wpQuiet_nil ?_
        rintro w4 ⟨⟨_, hb4⟩, rfl⟩
        go_wp2_with fail
        go_ret
        exact ⟨rfl, ((((HB.out.alloc _).trans hb1).trans hb2).trans hb3).trans hb4⟩
end Go.Proofs.Ytkmfbafgbaapiaa.M
