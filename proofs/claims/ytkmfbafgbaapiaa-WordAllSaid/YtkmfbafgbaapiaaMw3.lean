/- What codeOf and Right of package word answer, and the reference's Threads, Read, Right. Conditions: the arguments are of their kinds. -/
import Derived.Test.YtkmfbafgbaapiaaMw2
namespace Go.Proofs.Ytkmfbafgbaapiaa.M
open Go.RowKit Go.Proofs.YtkmfbafgbaapiaaW.PrintWords Go.Proofs.YtkmfbafgbaapiaaW.PrintLast Go.Proofs.YtkmfbafgbaapiaaW.PrintMore
attribute [local go_sem] max2_int min2_int max_two min_two
set_option linter.unusedVariables false
set_option linter.unusedSimpArgs false

def codeOf (k : Int) : Int := if k = 1 then 0 else if k = 2 then 4 else if k = 3 then 5 else if k = 4 then 6 else -1
theorem kindOf_vals : kindOf 0 = 1 ∧ kindOf 1 = 1 ∧ kindOf 2 = 1 ∧ kindOf 3 = 1 ∧ kindOf 4 = 2 ∧ kindOf 5 = 3 ∧ kindOf 6 = 4 ∧ kindOf 7 = 2 := by decide
theorem codeOf_found (k : Int) (n : Nat) (hn : (n : Int) < 8) (hno : ∀ j : Nat, j < n → kindOf j ≠ k) (h : kindOf n = k) : codeOf k = n := by
  obtain ⟨v0, v1, v2, v3, v4, v5, v6, v7⟩ := kindOf_vals
  subst h
  have h0 := hno 0
  have h4 := hno 4
  rcases (show n = 0 ∨ n = 1 ∨ n = 2 ∨ n = 3 ∨ n = 4 ∨ n = 5 ∨ n = 6 ∨ n = 7 by omega) with rfl | rfl | rfl | rfl | rfl | rfl | rfl | rfl <;> simp_all [codeOf]
theorem codeOf_none (k : Int) (hno : ∀ j : Nat, j < 8 → kindOf j ≠ k) : codeOf k = -1 := by
  obtain ⟨v0, v1, v2, v3, v4, v5, v6, v7⟩ := kindOf_vals
  have h0 := hno 0 (by omega)
  have h4 := hno 4 (by omega)
  have h5 := hno 5 (by omega)
  have h6 := hno 6 (by omega)
  simp at h0 h4 h5 h6
  unfold codeOf
  rw [if_neg (by omega), if_neg (by omega), if_neg (by omega), if_neg (by omega)]

set_option maxHeartbeats 1000000 in
theorem codeOf_calls (k : Int) (w : World) :
    Calls Try.prog 54 #[.int .i64 k] w fun e w' => e = .returned (.int .i64 (codeOf k)) ∧ Bw w w' := by
  have HB := Aside0.mk (Bw.refl w)
  go_enter Try.func54, Try.ntmps54
  go_wp2
  go_loopw [4] (fun v wr => ∃ n : Nat, (n : Int) ≤ 8 ∧ v = .int .u64 n ∧ Aside0 (∀ j : Nat, j < n → kindOf j ≠ k) ∧ Aside0 (Bw w wr)) (fun v _ => 8 - (intOf v).toNat)
  case atStart => exact ⟨0, by omega, rfl, ⟨fun j hj => absurd hj (by omega)⟩, HB⟩
  case round =>
    obtain ⟨n, hn, rfl, HN, HW⟩ := hrel
    by_cases hlt : (n : Int) < 8
    · go_wp2_with fail
      refine (kindOf_calls _ (by omega) _).mono ?_
      rintro e w1 ⟨rfl, hb1⟩
      by_cases hk : kindOf n = k
      · have HC := Aside0.mk (codeOf_found k n hlt HN.out hk)
        have hkb : (kindOf n == k) = true := by simpa using hk
        clear hk
        go_wp2
        go_ret
        exact ⟨ret_int HC.out.symm, HW.out.trans hb1⟩
      · have HK := Aside0.mk hk
        have hkb : (kindOf n == k) = false := by simpa using hk
        clear hk
        go_wp2
        go_roundw
        case rel => exact ⟨n + 1, by omega, by go_num, ⟨fun j hj => by rcases Nat.lt_succ_iff_lt_or_eq.1 hj with h | rfl; exact HN.out j h; exact HK.out⟩, ⟨HW.out.trans hb1⟩⟩
        case measure => simp [intOf]; omega
    · go_wp2
      go_ret
      have h8 : n = 8 := by omega
      exact ⟨ret_int (codeOf_none k (by rw [← h8]; exact HN.out)).symm, HW.out⟩

theorem Threads_calls (n : Int) (w : World) :
    Calls Try.prog 53 #[.int .i64 n] w fun e w' => e = .returned (.int .i64 (many n)) ∧ Bw w w' := by
  have HB := Aside0.mk (Bw.refl w)
  unfold many
  by_cases h1 : n < 1
  · rw [if_pos h1]
    go_enter Try.func53, Try.ntmps53
    go_wp2
    go_ret
    exact ⟨rfl, HB.out⟩
  · rw [if_neg h1]
    by_cases h2 : 256 < n
    · rw [if_pos h2]
      go_enter Try.func53, Try.ntmps53
      go_wp2
      go_ret
      exact ⟨rfl, HB.out⟩
    · rw [if_neg h2]
      go_enter Try.func53, Try.ntmps53
      go_wp2
      go_ret
      exact ⟨rfl, HB.out⟩

def rightB (k h n : Int) : Bool := !(decide (codeOf k < 0) || decide (h < 0) || decide (many n ≤ h)) && (whoB k || h == 0)
set_option maxHeartbeats 1000000 in
theorem Right_calls (k h n : Int) (w : World) :
    Calls Try.prog 20 #[entryV k h, .int .i64 n] w fun e w' => e = .returned (.bool (rightB k h n)) ∧ Bw w w' := by
  have HB := Aside0.mk (Bw.refl w)
  have c0 : ∀ p : BwW (w.alloc (.cells #[.int .i64 k, .int .i64 h] 27)), p.W.cell? ⟨w.heap.size, 0, none⟩ = some (.int .i64 k) := fun p => p.cell ((Blk.new w _ _).cell 0 _ rfl)
  have c1 : ∀ p : BwW (w.alloc (.cells #[.int .i64 k, .int .i64 h] 27)), p.W.cell? ⟨w.heap.size, 1, none⟩ = some (.int .i64 h) := fun p => p.cell ((Blk.new w _ _).cell 1 _ rfl)
  by_cases h1 : codeOf k < 0
  · have HR := Aside0.mk (show rightB k h n = false by simp [rightB, h1])
    have d1 : decide (codeOf k < 0) = true := by simpa using h1
    clear h1
    unfold entryV
    go_enter Try.func20, Try.ntmps20
    go_wp2_with fail
    refine wp_region_bw (by kernel_rfl) (by kernel_rfl) ?_
    repeat (first | go_big_quiet_skip | (go_big_quiet_want; go_big_quiet_op; first | go_big_quiet_on | go_big_quiet_call (first | exact qcall (codeOf_calls _ _) | exact qcall (many_calls _ _))))
    refine wpQuiet_nil ?_
    rintro w1 ⟨⟨_, hb1⟩, rfl⟩
    go_wp2_with fail
    go_ret
    exact ⟨ret_bool HR.out.symm, (HB.out.alloc _).trans hb1⟩
  · have d1 : decide (codeOf k < 0) = false := by simpa using h1
    by_cases h2 : h < 0
    · have HR := Aside0.mk (show rightB k h n = false by simp [rightB, h2])
      have d2 : decide (h < 0) = true := by simpa using h2
      clear h1 h2
      unfold entryV
      go_enter Try.func20, Try.ntmps20
      go_wp2_with fail
      refine wp_region_bw (by kernel_rfl) (by kernel_rfl) ?_
      repeat (first | go_big_quiet_skip | (go_big_quiet_want; go_big_quiet_op; first | go_big_quiet_on | go_big_quiet_call (first | exact qcall (codeOf_calls _ _) | exact qcall (many_calls _ _))))
      refine wpQuiet_nil ?_
      rintro w1 ⟨⟨_, hb1⟩, rfl⟩
      go_wp2_with fail
      go_ret
      exact ⟨ret_bool HR.out.symm, (HB.out.alloc _).trans hb1⟩
    · have d2 : decide (h < 0) = false := by simpa using h2
      by_cases h3 : many n ≤ h
      · have HR := Aside0.mk (show rightB k h n = false by simp [rightB, h3])
        have d3 : decide (many n ≤ h) = true := by simpa using h3
        clear h1 h2 h3
        unfold entryV
        go_enter Try.func20, Try.ntmps20
        go_wp2_with fail
        refine wp_region_bw (by kernel_rfl) (by kernel_rfl) ?_
        repeat (first | go_big_quiet_skip | (go_big_quiet_want; go_big_quiet_op; first | go_big_quiet_on | go_big_quiet_call (first | exact qcall (codeOf_calls _ _) | exact qcall (many_calls _ _))))
        refine wpQuiet_nil ?_
        rintro w1 ⟨⟨_, hb1⟩, rfl⟩
        go_wp2_with fail
        go_ret
        exact ⟨ret_bool HR.out.symm, (HB.out.alloc _).trans hb1⟩
      · have d3 : decide (many n ≤ h) = false := by simpa using h3
        have HR0 : rightB k h n = (whoB k || h == 0) := by simp [rightB, d1, d2, d3]
        cases hw : whoB k with
        | true =>
          have HR := Aside0.mk (show rightB k h n = true by rw [HR0, hw]; rfl)
          have HW := Aside0.mk hw
          clear h1 h2 h3 HR0 hw
          unfold entryV
          go_enter Try.func20, Try.ntmps20
          go_wp2_with fail
          refine wp_region_bw (by kernel_rfl) (by kernel_rfl) ?_
          repeat (first | go_big_quiet_skip | (go_big_quiet_want; go_big_quiet_op; first | go_big_quiet_on | go_big_quiet_call (first | exact qcall (codeOf_calls _ _) | exact qcall (many_calls _ _))))
          refine wpQuiet_nil ?_
          rintro w1 ⟨⟨_, hb1⟩, rfl⟩
          have k0 := c0 ⟨w1, hb1⟩
          have k1 := c1 ⟨w1, hb1⟩

          go_wp2_with fail
          refine (who_calls _ _).mono ?_
          rintro e w2 ⟨rfl, hb2⟩
          rw [HW.out]
          go_wp2_with fail
          go_ret
          exact ⟨ret_bool HR.out.symm, ((HB.out.alloc _).trans hb1).trans hb2⟩
        | false =>
          have HR := Aside0.mk (show rightB k h n = (h == 0) by rw [HR0, hw]; rfl)
          have HW := Aside0.mk hw
          clear h1 h2 h3 HR0 hw
          unfold entryV
          go_enter Try.func20, Try.ntmps20
          go_wp2_with fail
          refine wp_region_bw (by kernel_rfl) (by kernel_rfl) ?_
          repeat (first | go_big_quiet_skip | (go_big_quiet_want; go_big_quiet_op; first | go_big_quiet_on | go_big_quiet_call (first | exact qcall (codeOf_calls _ _) | exact qcall (many_calls _ _))))
          refine wpQuiet_nil ?_
          rintro w1 ⟨⟨_, hb1⟩, rfl⟩
          have k0 := c0 ⟨w1, hb1⟩
          have k1 := c1 ⟨w1, hb1⟩

          go_wp2_with fail
          refine (who_calls _ _).mono ?_
          rintro e w2 ⟨rfl, hb2⟩
          have k2 := hb2.kept k1
          rw [HW.out]
          go_wp2_with fail
          go_ret
          exact ⟨ret_bool HR.out.symm, ((HB.out.alloc _).trans hb1).trans hb2⟩

set_option maxHeartbeats 1000000 in
theorem refRead_calls (x n : Int) (h0 : 0 ≤ x) (h1 : x < 18446744073709551616) (w : World) :
    Calls Try.prog 19 #[.int .u64 x, .int .i64 n] w fun e w' => e = .returned (entryV (rKind x) (rWho x n)) ∧ Bw w w' := by
  have HB := Aside0.mk (Bw.refl w)
  have hm := many_range n
  have m1 := hm.1
  have m2 := hm.2
  clear hm
  have q0 : 0 ≤ x / 8 := by omega
  have q1 : x / 8 ≤ 9223372036854775807 := by omega
  have r0 : 0 ≤ x / 8 % many n := Int.emod_nonneg _ (by omega)
  have r1 : x / 8 % many n < 256 := by have := Int.emod_lt_of_pos (x / 8) (show 0 < many n by omega); omega
  have hw : rWho x n = if whoB (rKind x) = true then x / 8 % many n else 0 := rfl
  have hk : rKind x = if x % 8 ≤ 3 then 1 else if x % 8 = 5 then 3 else if x % 8 = 6 then 4 else 2 := by simp [rKind, kindOf]
  by_cases b1 : x % 8 < 4
  · have HR := Aside0.mk (show entryV (rKind x) (rWho x n) = .agg #[.int .i64 1, .int .i64 (x / 8 % many n)] by rw [hw, hk, if_pos (by omega)]; rfl)
    clear hw hk
    have d1 : decide (x % 8 < 4) = true := by simpa using b1
    clear b1
    go_enter Try.func19, Try.ntmps19
    go_wp2_with fail
    refine (Threads_calls _ _).mono ?_
    rintro e w1 ⟨rfl, hb1⟩
    have B1 := (Blk.new w _ _).bw hb1
    have c0 := B1.cell 0 (.int .i64 0) rfl
    have c1 := B1.cell 1 (.int .i64 0) rfl
    have f0 := B1.free 0
    have f1 := B1.free 1
    go_wp2_with fail
    refine bodyPost_ret (v := entryV (rKind x) (rWho x n)) ?_ rfl ⟨rfl, (((HB.out.alloc _).trans hb1).setCell (Nat.le_refl _) _).setCell (Nat.le_refl _) _⟩
    rw [HR.out]
    simp [results, Try.results19, go_sem, c0, c1]
  · have d1 : decide (x % 8 < 4) = false := by simpa using b1
    by_cases b2 : x % 8 = 5
    · have HR := Aside0.mk (show entryV (rKind x) (rWho x n) = .agg #[.int .i64 3, .int .i64 0] by rw [hw, hk, if_neg (by omega), if_pos b2]; rfl)
      clear hw hk
      have d2 : (x % 8 == 5) = true := by simpa using b2
      clear b1 b2
      go_enter Try.func19, Try.ntmps19
      go_wp2_with fail
      refine (Threads_calls _ _).mono ?_
      rintro e w1 ⟨rfl, hb1⟩
      have B1 := (Blk.new w _ _).bw hb1
      have c0 := B1.cell 0 (.int .i64 0) rfl
      have c1 := B1.cell 1 (.int .i64 0) rfl
      have f0 := B1.free 0
      have f1 := B1.free 1
      go_wp2_with fail
      refine bodyPost_ret (v := entryV (rKind x) (rWho x n)) ?_ rfl ⟨rfl, (((HB.out.alloc _).trans hb1).setCell (Nat.le_refl _) _).setCell (Nat.le_refl _) _⟩
      rw [HR.out]
      simp [results, Try.results19, go_sem, c0, c1]
    · have d2 : (x % 8 == 5) = false := by simpa using b2
      by_cases b3 : x % 8 = 6
      · have HR := Aside0.mk (show entryV (rKind x) (rWho x n) = .agg #[.int .i64 4, .int .i64 (x / 8 % many n)] by rw [hw, hk, if_neg (by omega), if_neg b2, if_pos b3]; rfl)
        clear hw hk
        have d3 : (x % 8 == 6) = true := by simpa using b3
        clear b1 b2 b3
        go_enter Try.func19, Try.ntmps19
        go_wp2_with fail
        refine (Threads_calls _ _).mono ?_
        rintro e w1 ⟨rfl, hb1⟩
        have B1 := (Blk.new w _ _).bw hb1
        have c0 := B1.cell 0 (.int .i64 0) rfl
        have c1 := B1.cell 1 (.int .i64 0) rfl
        have f0 := B1.free 0
        have f1 := B1.free 1
        go_wp2_with fail
        refine bodyPost_ret (v := entryV (rKind x) (rWho x n)) ?_ rfl ⟨rfl, (((HB.out.alloc _).trans hb1).setCell (Nat.le_refl _) _).setCell (Nat.le_refl _) _⟩
        rw [HR.out]
        simp [results, Try.results19, go_sem, c0, c1]
      · have HR := Aside0.mk (show entryV (rKind x) (rWho x n) = .agg #[.int .i64 2, .int .i64 0] by rw [hw, hk, if_neg (by omega), if_neg b2, if_neg b3]; rfl)
        clear hw hk
        have d3 : (x % 8 == 6) = false := by simpa using b3
        clear b1 b2 b3
        go_enter Try.func19, Try.ntmps19
        go_wp2_with fail
        refine (Threads_calls _ _).mono ?_
        rintro e w1 ⟨rfl, hb1⟩
        have B1 := (Blk.new w _ _).bw hb1
        have c0 := B1.cell 0 (.int .i64 0) rfl
        have c1 := B1.cell 1 (.int .i64 0) rfl
        have f0 := B1.free 0
        have f1 := B1.free 1
        go_wp2_with fail
        refine bodyPost_ret (v := entryV (rKind x) (rWho x n)) ?_ rfl ⟨rfl, (((HB.out.alloc _).trans hb1).setCell (Nat.le_refl _) _).setCell (Nat.le_refl _) _⟩
        rw [HR.out]
        simp [results, Try.results19, go_sem, c0, c1]
end Go.Proofs.Ytkmfbafgbaapiaa.M
