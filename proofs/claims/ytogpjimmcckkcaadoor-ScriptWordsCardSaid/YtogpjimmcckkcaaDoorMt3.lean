/- Script: codeOf and Right of package word; the word of an entry; whether it tells a thread. No condition. -/
import Derived.Test.YtogpjimmcckkcaaDoorMw
import Derived.Test.YtogpjimmcckkcaaDoorMt2
namespace Go.Proofs.YtogpjimmcckkcaaDoor.M
open Go.RowKit Go.Proofs.YtogpjimmcckkcaaDoorW.PrintWords Go.Proofs.YtogpjimmcckkcaaDoorW.PrintLast Go.Proofs.YtogpjimmcckkcaaDoorW.PrintMore
attribute [local go_sem] max2_int min2_int max_two min_two
set_option linter.unusedVariables false
set_option linter.unusedSimpArgs false
def codeOf (k : Int) : Int := if k = 1 then 0 else if k = 2 then 4 else if k = 3 then 5 else if k = 4 then 6 else -1
theorem kindOf_vals : kindOf 0 = 1 ∧ kindOf 1 = 1 ∧ kindOf 2 = 1 ∧ kindOf 3 = 1 ∧ kindOf 4 = 2 ∧ kindOf 5 = 3 ∧ kindOf 6 = 4 ∧ kindOf 7 = 2 := by decide
theorem codeOf_found (k : Int) (n : Nat) (hn : (n : Int) < 8) (hno : ∀ j : Nat, j < n → kindOf j ≠ k) (h : kindOf n = k) : codeOf k = n := by
  obtain ⟨v0, v1, v2, v3, v4, v5, v6, v7⟩ := kindOf_vals
  subst h
  have h0 := hno 0
  have h4 := hno 4
  rcases (show n = 0 ∨ n = 1 ∨ n = 2 ∨ n = 3 ∨ n = 4 ∨ n = 5 ∨ n = 6 ∨ n = 7 by omega) with rfl | rfl | rfl | rfl | rfl | rfl | rfl | rfl <;> simp_all [codeOf]
theorem codeOf_none (k : Int) (hno : ∀ j : Nat, j < 8 → kindOf j ≠ k) : codeOf k = -1 := by
  obtain ⟨v0, v1, v2, v3, v4, v5, v6, v7⟩ := kindOf_vals
  have h0 := hno 0 (by omega)
  have h4 := hno 4 (by omega)
  have h5 := hno 5 (by omega)
  have h6 := hno 6 (by omega)
  simp at h0 h4 h5 h6
  unfold codeOf
  rw [if_neg (by omega), if_neg (by omega), if_neg (by omega), if_neg (by omega)]

set_option maxHeartbeats 1000000 in
theorem codeOf_calls (k : Int) (w : World) :
    Calls Tryd.prog 71 #[.int .i64 k] w fun e w' => e = .returned (.int .i64 (codeOf k)) ∧ Bw w w' := by
  have HB := Aside0.mk (Bw.refl w)
  go_enter Tryd.func71, Tryd.ntmps71
  go_wp2
  go_loopw [4] (fun v wr => ∃ n : Nat, (n : Int) ≤ 8 ∧ v = .int .u64 n ∧ Aside0 (∀ j : Nat, j < n → kindOf j ≠ k) ∧ Aside0 (Bw w wr)) (fun v _ => 8 - (intOf v).toNat)
  case atStart => exact ⟨0, by omega, rfl, ⟨fun j hj => absurd hj (by omega)⟩, HB⟩
  case round =>
    obtain ⟨n, hn, rfl, HN, HW⟩ := hrel
    by_cases hlt : (n : Int) < 8
    · go_wp2_with fail
      refine (kindOf_calls _ (by omega) _).mono ?_
      rintro e w1 ⟨rfl, hb1⟩
      by_cases hk : kindOf n = k
      · have HC := Aside0.mk (codeOf_found k n hlt HN.out hk)
        have hkb : (kindOf n == k) = true := by simpa using hk
        clear hk
        go_wp2
        go_ret
        exact ⟨ret_int HC.out.symm, HW.out.trans hb1⟩
      · have HK := Aside0.mk hk
        have hkb : (kindOf n == k) = false := by simpa using hk
        clear hk
        go_wp2
        go_roundw
        case rel => exact ⟨n + 1, by omega, by go_num, ⟨fun j hj => by rcases Nat.lt_succ_iff_lt_or_eq.1 hj with h | rfl; exact HN.out j h; exact HK.out⟩, ⟨HW.out.trans hb1⟩⟩
        case measure => simp [intOf]; omega
    · go_wp2
      go_ret
      have h8 : n = 8 := by omega
      exact ⟨ret_int (codeOf_none k (by rw [← h8]; exact HN.out)).symm, HW.out⟩

def entryV (k h : Int) : Value := .agg #[.int .i64 k, .int .i64 h]
def rightB (k h n : Int) : Bool := !(decide (codeOf k < 0) || decide (h < 0) || decide (many n ≤ h)) && (whoB k || h == 0)
set_option maxHeartbeats 1000000 in
theorem Right_calls (k h n : Int) (w : World) :
    Calls Tryd.prog 53 #[entryV k h, .int .i64 n] w fun e w' => e = .returned (.bool (rightB k h n)) ∧ Bw w w' := by
  have HB := Aside0.mk (Bw.refl w)
  have c0 : ∀ p : BwW (w.alloc (.cells #[.int .i64 k, .int .i64 h] 55)), p.W.cell? ⟨w.heap.size, 0, none⟩ = some (.int .i64 k) := fun p => p.cell ((Blk.new w _ _).cell 0 _ rfl)
  have c1 : ∀ p : BwW (w.alloc (.cells #[.int .i64 k, .int .i64 h] 55)), p.W.cell? ⟨w.heap.size, 1, none⟩ = some (.int .i64 h) := fun p => p.cell ((Blk.new w _ _).cell 1 _ rfl)
  by_cases h1 : codeOf k < 0
  · have HR := Aside0.mk (show rightB k h n = false by simp [rightB, h1])
    have d1 : decide (codeOf k < 0) = true := by simpa using h1
    clear h1
    unfold entryV
    go_enter Tryd.func53, Tryd.ntmps53
    go_wp2_with fail
    refine wp_region_bw (by kernel_rfl) (by kernel_rfl) ?_
    repeat (first | go_big_quiet_skip | (go_big_quiet_want; go_big_quiet_op; first | go_big_quiet_on | go_big_quiet_call (first | exact qcall (codeOf_calls _ _) | exact qcall (many_calls _ _))))
    refine wpQuiet_nil ?_
    rintro w1 ⟨⟨_, hb1⟩, rfl⟩
    go_wp2_with fail
    go_ret
    exact ⟨ret_bool HR.out.symm, (HB.out.alloc _).trans hb1⟩
  · have d1 : decide (codeOf k < 0) = false := by simpa using h1
    by_cases h2 : h < 0
    · have HR := Aside0.mk (show rightB k h n = false by simp [rightB, h2])
      have d2 : decide (h < 0) = true := by simpa using h2
      clear h1 h2
      unfold entryV
      go_enter Tryd.func53, Tryd.ntmps53
      go_wp2_with fail
      refine wp_region_bw (by kernel_rfl) (by kernel_rfl) ?_
      repeat (first | go_big_quiet_skip | (go_big_quiet_want; go_big_quiet_op; first | go_big_quiet_on | go_big_quiet_call (first | exact qcall (codeOf_calls _ _) | exact qcall (many_calls _ _))))
      refine wpQuiet_nil ?_
      rintro w1 ⟨⟨_, hb1⟩, rfl⟩
      go_wp2_with fail
      go_ret
      exact ⟨ret_bool HR.out.symm, (HB.out.alloc _).trans hb1⟩
    · have d2 : decide (h < 0) = false := by simpa using h2
      by_cases h3 : many n ≤ h
      · have HR := Aside0.mk (show rightB k h n = false by simp [rightB, h3])
        have d3 : decide (many n ≤ h) = true := by simpa using h3
        clear h1 h2 h3
        unfold entryV
        go_enter Tryd.func53, Tryd.ntmps53
        go_wp2_with fail
        refine wp_region_bw (by kernel_rfl) (by kernel_rfl) ?_
        repeat (first | go_big_quiet_skip | (go_big_quiet_want; go_big_quiet_op; first | go_big_quiet_on | go_big_quiet_call (first | exact qcall (codeOf_calls _ _) | exact qcall (many_calls _ _))))
        refine wpQuiet_nil ?_
        rintro w1 ⟨⟨_, hb1⟩, rfl⟩
        go_wp2_with fail
        go_ret
        exact ⟨ret_bool HR.out.symm, (HB.out.alloc _).trans hb1⟩
      · have d3 : decide (many n ≤ h) = false := by simpa using h3
        have HR0 : rightB k h n = (whoB k || h == 0) := by simp [rightB, d1, d2, d3]
        cases hw : whoB k with
        | true =>
          have HR := Aside0.mk (show rightB k h n = true by rw [HR0, hw]; rfl)
          have HW := Aside0.mk hw
          clear h1 h2 h3 HR0 hw
          unfold entryV
          go_enter Tryd.func53, Tryd.ntmps53
          go_wp2_with fail
          refine wp_region_bw (by kernel_rfl) (by kernel_rfl) ?_
          repeat (first | go_big_quiet_skip | (go_big_quiet_want; go_big_quiet_op; first | go_big_quiet_on | go_big_quiet_call (first | exact qcall (codeOf_calls _ _) | exact qcall (many_calls _ _))))
          refine wpQuiet_nil ?_
          rintro w1 ⟨⟨_, hb1⟩, rfl⟩
          have k0 := c0 ⟨w1, hb1⟩
          have k1 := c1 ⟨w1, hb1⟩

          go_wp2_with fail
          refine (who_calls _ _).mono ?_
          rintro e w2 ⟨rfl, hb2⟩
          rw [HW.out]
          go_wp2_with fail
          go_ret
          exact ⟨ret_bool HR.out.symm, ((HB.out.alloc _).trans hb1).trans hb2⟩
        | false =>
          have HR := Aside0.mk (show rightB k h n = (h == 0) by rw [HR0, hw]; rfl)
          have HW := Aside0.mk hw
          clear h1 h2 h3 HR0 hw
          unfold entryV
          go_enter Tryd.func53, Tryd.ntmps53
          go_wp2_with fail
          refine wp_region_bw (by kernel_rfl) (by kernel_rfl) ?_
          repeat (first | go_big_quiet_skip | (go_big_quiet_want; go_big_quiet_op; first | go_big_quiet_on | go_big_quiet_call (first | exact qcall (codeOf_calls _ _) | exact qcall (many_calls _ _))))
          refine wpQuiet_nil ?_
          rintro w1 ⟨⟨_, hb1⟩, rfl⟩
          have k0 := c0 ⟨w1, hb1⟩
          have k1 := c1 ⟨w1, hb1⟩

          go_wp2_with fail
          refine (who_calls _ _).mono ?_
          rintro e w2 ⟨rfl, hb2⟩
          have k2 := hb2.kept k1
          rw [HW.out]
          go_wp2_with fail
          go_ret
          exact ⟨ret_bool HR.out.symm, ((HB.out.alloc _).trans hb1).trans hb2⟩

def enW (k : Int) : List UInt8 := if k = 1 then [115, 116, 101, 112] else if k = 2 then [109, 111, 110] else if k = 3 then [116, 105, 99, 107] else [114, 101, 116, 117, 114, 110]
theorem entryWord_calls (k : Int) (w : World) : Calls Tryd.prog 74 #[.int .i64 k] w fun e w' => e = .returned (strV (enW k)) ∧ Bw w w' := by
  have HB := Aside0.mk (Bw.refl w)
  unfold enW
  by_cases h1 : k = 1
  · subst h1
    rw [if_pos rfl]
    go_enter Tryd.func74, Tryd.ntmps74
    go_wp2_with fail
    go_ret
    exact ⟨rfl, HB.out⟩
  have d1 : (k == 1) = false := by simpa using h1
  by_cases h2 : k = 2
  · subst h2
    rw [if_neg (by decide), if_pos rfl]
    clear h1 d1
    go_enter Tryd.func74, Tryd.ntmps74
    go_wp2_with fail
    go_ret
    exact ⟨rfl, HB.out⟩
  have d2 : (k == 2) = false := by simpa using h2
  by_cases h3 : k = 3
  · subst h3
    rw [if_neg (by decide), if_neg (by decide), if_pos rfl]
    clear h1 d1 h2 d2
    go_enter Tryd.func74, Tryd.ntmps74
    go_wp2_with fail
    go_ret
    exact ⟨rfl, HB.out⟩
  have d3 : (k == 3) = false := by simpa using h3
  rw [if_neg h1, if_neg h2, if_neg h3]
  clear h1 h2 h3
  go_enter Tryd.func74, Tryd.ntmps74
  go_wp2_with fail
  go_ret
  exact ⟨rfl, HB.out⟩
def thrB (k : Int) : Bool := k == 1 || k == 4
theorem threaded_calls (k : Int) (w : World) : Calls Tryd.prog 75 #[.int .i64 k] w fun e w' => e = .returned (.bool (thrB k)) ∧ Bw w w' := by
  have HB := Aside0.mk (Bw.refl w)
  cases h1 : (k == 1)
  · have HR := Aside0.mk (show thrB k = (k == 4) by simp [thrB, h1])
    go_enter Tryd.func75, Tryd.ntmps75
    go_wp2_with fail
    go_ret
    exact ⟨ret_bool HR.out.symm, HB.out⟩
  · have HR := Aside0.mk (show thrB k = true by simp [thrB, h1])
    go_enter Tryd.func75, Tryd.ntmps75
    go_wp2_with fail
    go_ret
    exact ⟨ret_bool HR.out.symm, HB.out⟩
end Go.Proofs.YtogpjimmcckkcaaDoor.M
