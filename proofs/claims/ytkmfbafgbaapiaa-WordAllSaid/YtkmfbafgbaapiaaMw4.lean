/- What the reference's Right, and Write and All of package word answer. Conditions: the arguments are of their kinds. -/
import Derived.Test.YtkmfbafgbaapiaaMw3
namespace Go.Proofs.Ytkmfbafgbaapiaa.M
open Go.RowKit Go.Proofs.YtkmfbafgbaapiaaW.PrintWords Go.Proofs.YtkmfbafgbaapiaaW.PrintLast Go.Proofs.YtkmfbafgbaapiaaW.PrintMore
set_option linter.unusedVariables false
set_option linter.unusedSimpArgs false

set_option maxHeartbeats 2000000 in
theorem refRight_calls (k h n : Int) (w : World) :
    Calls Try.prog 22 #[entryV k h, .int .i64 n] w fun e w' => e = .returned (.bool (rightB k h n)) ∧ Bw w w' := by
  have HB := Aside0.mk (Bw.refl w)
  have c0 : ∀ p : BwW (w.alloc (.cells #[.int .i64 k, .int .i64 h] 27)), p.W.cell? ⟨w.heap.size, 0, none⟩ = some (.int .i64 k) := fun p => p.cell ((Blk.new w _ _).cell 0 _ rfl)
  have c1 : ∀ p : BwW (w.alloc (.cells #[.int .i64 k, .int .i64 h] 27)), p.W.cell? ⟨w.heap.size, 1, none⟩ = some (.int .i64 h) := fun p => p.cell ((Blk.new w _ _).cell 1 _ rfl)
  have hm := many_range n
  by_cases e2 : k = 2
  · have HR := Aside0.mk (show rightB k h n = (h == 0) by subst e2; by_cases hh : h = 0 <;> simp [rightB, codeOf, whoB, hh]; omega)
    subst e2
    clear hm
    unfold entryV
    go_enter Try.func22, Try.ntmps22
    go_wp2_with fail
    go_ret
    exact ⟨ret_bool HR.out.symm, HB.out.alloc _⟩
  · have d2 : (k == 2) = false := by simpa using e2
    by_cases e3 : k = 3
    · have HR := Aside0.mk (show rightB k h n = (h == 0) by subst e3; by_cases hh : h = 0 <;> simp [rightB, codeOf, whoB, hh]; omega)
      subst e3
      clear hm
      unfold entryV
      go_enter Try.func22, Try.ntmps22
      go_wp2_with fail
      go_ret
      exact ⟨ret_bool HR.out.symm, HB.out.alloc _⟩
    · have d3 : (k == 3) = false := by simpa using e3
      by_cases e1 : k = 1 ∨ k = 4
      · have HR := Aside0.mk (show rightB k h n = (decide (0 ≤ h) && decide (h < many n)) by
          rcases e1 with rfl | rfl <;> by_cases h0 : h < 0 <;> by_cases h1 : many n ≤ h <;> simp [rightB, codeOf, whoB, h0, h1] <;> omega)
        by_cases h0 : 0 ≤ h
        · have b0 : decide (0 ≤ h) = true := by simpa using h0
          rcases e1 with rfl | rfl
          all_goals
            clear hm e2 e3 h0
            unfold entryV
            go_enter Try.func22, Try.ntmps22
            go_wp2_with fail
            refine wp_region_bw (by kernel_rfl) (by kernel_rfl) ?_
            repeat (first | go_big_quiet_skip | (go_big_quiet_want; go_big_quiet_op; first | go_big_quiet_on | go_big_quiet_call (exact qcall (Threads_calls _ _))))
            refine wpQuiet_nil ?_
            rintro w1 ⟨⟨_, hb1⟩, rfl⟩
            go_wp2_with fail
            go_ret
            exact ⟨ret_bool (by rw [HR.out, b0]; simp), (HB.out.alloc _).trans hb1⟩
        · have b0 : decide (0 ≤ h) = false := by simpa using h0
          rcases e1 with rfl | rfl
          all_goals
            clear hm e2 e3 h0
            unfold entryV
            go_enter Try.func22, Try.ntmps22
            go_wp2_with fail
            refine wp_region_bw (by kernel_rfl) (by kernel_rfl) ?_
            repeat (first | go_big_quiet_skip | (go_big_quiet_want; go_big_quiet_op; first | go_big_quiet_on | go_big_quiet_call (exact qcall (Threads_calls _ _))))
            refine wpQuiet_nil ?_
            rintro w1 ⟨⟨_, hb1⟩, rfl⟩
            go_wp2_with fail
            go_ret
            exact ⟨ret_bool (by rw [HR.out, b0]; simp), (HB.out.alloc _).trans hb1⟩
      · have d1 : (k == 1) = false := by simp; omega
        have d4 : (k == 4) = false := by simp; omega
        have HR := Aside0.mk (show rightB k h n = false by simp [rightB, codeOf, e2, e3, show ¬ k = 1 by omega, show ¬ k = 4 by omega])
        clear hm e2 e3 e1
        unfold entryV
        go_enter Try.func22, Try.ntmps22
        go_wp2_with fail
        refine wp_region_bw (by kernel_rfl) (by kernel_rfl) ?_
        repeat (first | go_big_quiet_skip | (go_big_quiet_want; go_big_quiet_op; first | go_big_quiet_on | go_big_quiet_call (exact qcall (Threads_calls _ _))))
        refine wpQuiet_nil ?_
        rintro w1 ⟨⟨_, hb1⟩, rfl⟩
        go_wp2_with fail
        go_ret
        exact ⟨ret_bool HR.out.symm, (HB.out.alloc _).trans hb1⟩

/-- The least word of an entry, and the error. -/
def writeW (k h : Int) : Int := if codeOf k < 0 ∨ rightB k h 256 = false then 0 else h * 8 + codeOf k
def writeE (k h : Int) : Int := if codeOf k < 0 then 1 else if rightB k h 256 = false then 5 else 0
theorem or3 (h c : Int) (h0 : 0 ≤ h) (h1 : h < 256) (c0 : 0 ≤ c) (c1 : c < 8) : bits .or .u64 (h * 8) c = h * 8 + c := by
  rw [u64_or _ _ (by omega) (by omega) (by omega) (by omega)]
  obtain ⟨a, rfl⟩ := Int.eq_ofNat_of_zero_le h0
  obtain ⟨b, rfl⟩ := Int.eq_ofNat_of_zero_le c0
  have := nat_join 3 (a * 8) b (by omega) (by omega)
  have e1 : ((a : Int) * 8).toNat = a * 8 := by omega
  rw [e1, Int.toNat_natCast, this]
  omega
theorem codeOf_range (k : Int) : -1 ≤ codeOf k ∧ codeOf k < 8 := by unfold codeOf; (repeat' split) <;> omega
set_option maxHeartbeats 2000000 in
theorem Write_calls (k h : Int) (w : World) :
    Calls Try.prog 21 #[entryV k h] w fun e w' => e = .returned (.tuple #[.int .u64 (writeW k h), .int .i64 (writeE k h)]) ∧ Bw w w' := by
  have HB := Aside0.mk (Bw.refl w)
  by_cases e1 : codeOf k < 0
  · have HR := Aside0.mk (show writeW k h = 0 ∧ writeE k h = 1 by simp [writeW, writeE, e1])
    have d1 : decide (codeOf k < 0) = true := by simpa using e1
    clear e1
    unfold entryV
    go_enter Try.func21, Try.ntmps21
    go_wp2_with fail
    refine (codeOf_calls _ _).mono ?_
    rintro e w1 ⟨rfl, hb1⟩
    go_wp2_with fail
    go_ret2
    rw [HR.out.1, HR.out.2]
    exact ⟨rfl, (HB.out.alloc _).trans hb1⟩
  · have d1 : decide (codeOf k < 0) = false := by simpa using e1
    cases hr : rightB k h 256 with
    | false =>
      have HR := Aside0.mk (show writeW k h = 0 ∧ writeE k h = 5 by simp [writeW, writeE, e1, hr])
      have HX := Aside0.mk hr
      clear e1 hr
      unfold entryV
      go_enter Try.func21, Try.ntmps21
      go_wp2_with fail
      refine (codeOf_calls _ _).mono ?_
      rintro e w1 ⟨rfl, hb1⟩
      have B1 := (Blk.new w _ _).bw hb1
      have c0 := B1.cell 0 (.int .i64 k) rfl
      have c1 := B1.cell 1 (.int .i64 h) rfl
      go_wp2_with fail
      refine (Right_calls k h 256 _).mono ?_
      rintro e w2 ⟨rfl, hb2⟩
      rw [HX.out]
      go_wp2_with fail
      go_ret2
      rw [HR.out.1, HR.out.2]
      exact ⟨rfl, ((HB.out.alloc _).trans hb1).trans hb2⟩
    | true =>
      have hh : 0 ≤ h ∧ h < 256 := by
        have := many_range 256
        simp [rightB] at hr
        omega
      have hc := codeOf_range k
      have HR := Aside0.mk (show writeW k h = bits .or .u64 (h * 8) (codeOf k) ∧ writeE k h = 0 by
        rw [or3 h _ hh.1 hh.2 (by omega) hc.2]; simp [writeW, writeE, e1, hr])
      have HX := Aside0.mk hr
      have h0 := hh.1
      have h1 := hh.2
      have k0 : 0 ≤ codeOf k := by omega
      have k1 := hc.2
      clear e1 hr hh hc
      unfold entryV
      go_enter Try.func21, Try.ntmps21
      go_wp2_with fail
      refine (codeOf_calls _ _).mono ?_
      rintro e w1 ⟨rfl, hb1⟩
      have B1 := (Blk.new w _ _).bw hb1
      have c0 := B1.cell 0 (.int .i64 k) rfl
      have c1 := B1.cell 1 (.int .i64 h) rfl
      go_wp2_with fail
      refine (Right_calls k h 256 _).mono ?_
      rintro e w2 ⟨rfl, hb2⟩
      have B2 := B1.bw hb2
      have g0 := B2.cell 0 (.int .i64 k) rfl
      have g1 := B2.cell 1 (.int .i64 h) rfl
      rw [HX.out]
      go_wp2_with fail
      go_ret2
      rw [HR.out.1, HR.out.2]
      exact ⟨rfl, ((HB.out.alloc _).trans hb1).trans hb2⟩
end Go.Proofs.Ytkmfbafgbaapiaa.M
