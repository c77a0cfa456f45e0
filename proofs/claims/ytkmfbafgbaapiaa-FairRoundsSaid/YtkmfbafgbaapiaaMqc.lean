/- The law FairRounds, walked: it answers true. Conditions: the arguments are of their kinds. -/
import Derived.Test.YtkmfbafgbaapiaaMqb
namespace Go.Proofs.Ytkmfbafgbaapiaa.M
open Go.RowKit Go.Maps Go.Proofs.YtkmfbafgbaapiaaW.PrintWords Go.Proofs.YtkmfbafgbaapiaaW.PrintLast Go.Proofs.YtkmfbafgbaapiaaW.PrintMore
set_option linter.unusedVariables false
set_option linter.unusedSimpArgs false
set_option maxRecDepth 100000
set_option maxHeartbeats 2000000 in
theorem Rounds_good (p g : Int) (T : Nat) (hr : rightB p T g = true) (h8 : T ≤ 8) (n : Nat) (hn : 1 ≤ n ∧ n ≤ 6) (w : World) :
    Calls Try.prog 9 #[.agg #[.int .i64 p, .int .i64 T, .int .i64 g], .int .i64 n] w fun e w' => e = .returned (.bool true) ∧ Bw w w' := by
  have HR := Aside0.mk hr
  have HB := Aside0.mk ((Bw.refl w).alloc (.cells #[.int .i64 p, .int .i64 T, .int .i64 g] 49))
  have HL := Aside0.mk (Blk.new w #[.int .i64 p, .int .i64 T, .int .i64 g] 49)
  have hT1 : 1 ≤ T := by have := right_t hr; omega
  have d1 : decide ((8 : Int) < (T : Int)) = false := by simp; omega
  have d2 : decide ((n : Int) < 1) = false := by simp; omega
  have d3 : decide ((6 : Int) < (n : Int)) = false := by simp; omega
  obtain ⟨n1, n6⟩ := hn
  clear hr
  go_enter Try.func9, Try.ntmps9
  go_wp2_with fail
  refine (refRight5_calls p T g _).mono ?_
  rintro e w1 ⟨rfl, hb1⟩
  rw [HR.out]
  have HL1 := Aside0.mk (HL.out.bw hb1)
  have HB1 := Aside0.mk (HB.out.trans hb1)
  have p0 : w1.cell? ⟨w.heap.size, 0, none⟩ = some (.int .i64 p) := HL1.out.cell 0 _ rfl
  have p1 : w1.cell? ⟨w.heap.size, 1, none⟩ = some (.int .i64 T) := HL1.out.cell 1 _ rfl
  have p2 : w1.cell? ⟨w.heap.size, 2, none⟩ = some (.int .i64 g) := HL1.out.cell 2 _ rfl
  clear hb1
  go_wp2_with fail
  refine (fairRound_calls p g T HR.out _).mono ?_
  rintro e w2 ⟨v2, rfl, ho2, hb2⟩
  obtain ⟨g2, c2, rfl, _, _⟩ := ho2.form (by rw [roundL_len]; omega)
  have HL2 := Aside0.mk (HL1.out.bw hb2)
  have HB2 := Aside0.mk (HB1.out.trans hb2)
  have HLEN := Aside0.mk (roundL_len T)
  obtain ⟨m, hm⟩ : ∃ m, m = 2 * T + 5 := ⟨_, rfl⟩
  have HM := Aside0.mk hm
  have hmb : m ≤ 21 := by omega
  rw [roundL_len, ← hm]
  have HO2 := Aside0.mk (show w2.ownsRow w1.heap.size 27 2 (.slice (some ⟨g2, 0, none⟩) m c2) m ((roundL T).flatMap encN) by
    have h := ho2
    unfold ownN at h
    rw [roundL_len, ← hm] at h
    exact h)
  rw [← hm] at HLEN
  clear ho2 hb2 p0 p1 p2 hm
  go_wp2_with fail
  go_loopw [5, 7] (fun v iv wr => ∃ k : Nat, k ≤ n ∧ iv = .int .i64 k ∧ Aside0 (ownN wr w2.heap.size v (repL k T)) ∧ Aside0 (Bw w2 wr)) (fun _ iv _ => n - (intOf iv).toNat)
  case atStart => exact ⟨0, by omega, rfl, ⟨own_nil _ _ _ _⟩, ⟨Bw.refl _⟩⟩
  case round =>
    obtain ⟨k, hk, rfl, HO, HV⟩ := hrel
    have HKL := Aside0.mk (repL_len k T)
    have hkm : k * m ≤ 6 * 21 := Nat.mul_le_mul (by omega) hmb
    by_cases hlt : k < n
    · have e1 : decide ((k : Int) < (n : Int)) = true := by simp; omega
      go_wp2_with fail
      obtain ⟨wo, hwo⟩ : ∃ wo, wo = wr := ⟨_, rfl⟩
      subst hwo
      go_loopw [5, 8] (fun v jv wr => ∃ j : Nat, j ≤ m ∧ jv = .int .i64 j ∧ Aside0 (ownN wr w2.heap.size v (repL k T ++ (roundL T).take j)) ∧ Aside0 (Bw w2 wr)) (fun _ jv _ => m - (intOf jv).toNat)
      case atStart => exact ⟨0, by omega, rfl, ⟨by rw [List.take_zero, List.append_nil]; exact HO.out⟩, HV⟩
      case round =>
        obtain ⟨j, hj, rfl, HO, HV⟩ := hrel
        by_cases hlt2 : j < m
        · obtain ⟨e, he⟩ : ∃ e, (roundL T)[j]? = some e := ⟨_, List.getElem?_eq_getElem (by rw [HLEN.out]; exact hlt2)⟩
          have HRW := Aside0.mk ((rows_one HLEN.out HO2.out).bw HV.out)
          obtain ⟨ad, ead, h0, hi⟩ := HRW.out.atS j e he
          injection ead with ead
          subst ead
          have s0 := h0 _ rfl
          have s1 := hi 1 _ (by decide) rfl
          rw [add_plain] at s0 s1
          have HTK := Aside0.mk (show (roundL T).take (j + 1) = (roundL T).take j ++ [e] by rw [List.take_add_one, he]; rfl)
          have hbd : (repL k T ++ (roundL T).take j).length ≤ 1000 := by
            rw [List.length_append, HKL.out, List.length_take, HLEN.out, ← HM.out]
            omega
          clear h0 hi he
          go_wp2_with (at_builtin; go_loud (refine print_append_cells (w0 := w2) w2.heap.size rfl (.tmp 40) (.tmp 45) 36 27 (.agg #[.int .i64 0, .int .i64 0]) 2 16 rfl Try.underlying36 infoN rfl (by omega) (by omega) _ (repL k T ++ (roundL T).take j).length _ [.int .i64 e.1, .int .i64 e.2] rfl rfl rfl (by simp [Value.oneCell']) HO.out HV.out HV.out.size (by omega) ?_); intro v1 w4 hown4 hbel4 hg4 hat4)
          have HO4 := Aside0.mk (show ownN w4 w2.heap.size v1 (repL k T ++ (roundL T).take (j + 1)) by
            rw [HTK.out, ← List.append_assoc]
            exact ownN_push hown4)
          clear hown4 hg4 hat4
          go_roundw
          case rel => exact ⟨j + 1, by omega, by go_num, HO4, ⟨hbel4⟩⟩
          case measure => simp [intOf]; omega
        · obtain rfl : m = j := by omega
          have HO5 := Aside0.mk (show ownN wr w2.heap.size _ (repL (k + 1) T) by
            rw [repL_succ]
            have := HO.out
            rw [List.take_of_length_le (by rw [HLEN.out]; omega)] at this
            exact this)
          go_wp2_with fail
          go_roundw
          case rel => exact ⟨k + 1, by omega, by go_num, HO5, HV⟩
          case measure => simp [intOf]; omega
    · obtain rfl : n = k := by omega
      have HL3 := Aside0.mk (HL2.out.bw HV.out)
      have p1 : wr.cell? ⟨w.heap.size, 1, none⟩ = some (.int .i64 T) := HL3.out.cell 1 _ rfl
      have HXR := Aside0.mk ((rows_one HLEN.out HO2.out).bw HV.out)
      obtain ⟨AL, cL, rfl, hRL⟩ := Rows.own (enc := encN) (sz := 2) (xs := repL n T) (fun _ => rfl) HO.out rfl (by rw [repL_len, ← HM.out]; omega)
      have HXL := Aside0.mk hRL
      have hT8 : T ≤ 256 := by omega
      have e5 : (m : Int) = 2 * (T : Int) + 5 := by have := HM.out; omega
      have e6 : ((m : Int) == 2 * (T : Int) + 5) = true := by rw [e5]; simp
      have HE5 := Aside0.mk e5
      clear hRL e5
      go_wp2_with fail
      refine (qawake_calls _).mono ?_
      rintro e w3 ⟨rfl, hb3⟩
      have HL3 := Aside0.mk (HL3.out.bw hb3)
      have HV3 := Aside0.mk (HV.out.trans hb3)
      have HXR := Aside0.mk (HXR.out.bw hb3)
      have HXL := Aside0.mk (HXL.out.bw hb3)
      have p0 : w3.cell? ⟨w.heap.size, 0, none⟩ = some (.int .i64 p) := HL3.out.cell 0 _ rfl
      have p1 : w3.cell? ⟨w.heap.size, 1, none⟩ = some (.int .i64 T) := HL3.out.cell 1 _ rfl
      have p2 : w3.cell? ⟨w.heap.size, 2, none⟩ = some (.int .i64 g) := HL3.out.cell 2 _ rfl
      clear hb3
      go_wp2_with fail
      refine (right_is HR.out HLEN.out HXR.out (by rw [HLEN.out]; omega) (fun e he => rnd_wf T hT8 e he) (round_right T hT8)).mono ?_
      rintro e w4 ⟨rfl, hb4⟩
      have HL4 := Aside0.mk (HL3.out.bw hb4)
      have HV4 := Aside0.mk (HV3.out.trans hb4)
      have HXL := Aside0.mk (HXL.out.bw hb4)
      have p0 : w4.cell? ⟨w.heap.size, 0, none⟩ = some (.int .i64 p) := HL4.out.cell 0 _ rfl
      have p1 : w4.cell? ⟨w.heap.size, 1, none⟩ = some (.int .i64 T) := HL4.out.cell 1 _ rfl
      have p2 : w4.cell? ⟨w.heap.size, 2, none⟩ = some (.int .i64 g) := HL4.out.cell 2 _ rfl
      clear hb4
      go_wp2_with fail
      refine (window_is HR.out rfl HXL.out (by rw [repL_len, ← HM.out]; omega) (fun e he => rep_wf n T hT8 e he) (round_win T n hT8 hT1 n1)).mono ?_
      rintro e w5 ⟨rfl, hb5⟩
      rw [show ((2 * T + 5 : Nat) : Int) = 2 * (T : Int) + 5 by omega]
      have e7 : (2 * (T : Int) + 5 == 2 * (T : Int) + 5) = true := by simp
      go_wp2_with fail
      go_ret
      exact ⟨by first | rfl | simp, (HB2.out.trans HV4.out).trans hb5⟩
set_option maxHeartbeats 1000000 in
theorem FairRounds_walk (w : World) (cs : List Value) (f : Fits [.int .i64, .int .i64, .int .i64] cs) (a : Int) (wa : (Lit.int .i64 a).wf = true) :
    Calls Try.prog 9 #[.agg cs.toArray, .int .i64 a] w fun e w' => e = .returned (.bool true) ∧ Bw w w' := by
  obtain ⟨p, _, rfl, _, h1⟩ := f.int
  obtain ⟨t, _, rfl, _, h2⟩ := h1.int
  obtain ⟨g, _, rfl, _, h3⟩ := h2.int
  obtain rfl := h3.nil
  have HB := Aside0.mk ((Bw.refl w).alloc (.cells #[.int .i64 p, .int .i64 t, .int .i64 g] 49))
  have HL := Aside0.mk (Blk.new w #[.int .i64 p, .int .i64 t, .int .i64 g] 49)
  clear f h1 h2 h3 wa
  cases hr : rightB p t g
  · have HR := Aside0.mk hr
    clear hr
    go_enter Try.func9, Try.ntmps9
    go_wp2_with fail
    refine (refRight5_calls p t g _).mono ?_
    rintro e w1 ⟨rfl, hb1⟩
    rw [HR.out]
    go_wp2_with fail
    refine (qawake_calls _).mono ?_
    rintro e w2 ⟨rfl, hb2⟩
    go_wp2_with fail
    go_ret
    exact ⟨rfl, (HB.out.trans hb1).trans hb2⟩
  · have HR := Aside0.mk hr
    by_cases h8 : t ≤ 8
    · by_cases ha1 : a < 1
      · have d1 : decide (8 < t) = false := by simp; omega
        have d2 : decide (a < 1) = true := by simp; omega
        clear hr
        go_enter Try.func9, Try.ntmps9
        go_wp2_with fail
        refine (refRight5_calls p t g _).mono ?_
        rintro e w1 ⟨rfl, hb1⟩
        rw [HR.out]
        have p1 : w1.cell? ⟨w.heap.size, 1, none⟩ = some (.int .i64 t) := (HL.out.bw hb1).cell 1 _ rfl
        go_wp2_with fail
        refine (qawake_calls _).mono ?_
        rintro e w2 ⟨rfl, hb2⟩
        go_wp2_with fail
        go_ret
        exact ⟨rfl, (HB.out.trans hb1).trans hb2⟩
      · by_cases ha6 : 6 < a
        · have d1 : decide (8 < t) = false := by simp; omega
          have d2 : decide (a < 1) = false := by simp; omega
          have d3 : decide (6 < a) = true := by simp; omega
          clear hr
          go_enter Try.func9, Try.ntmps9
          go_wp2_with fail
          refine (refRight5_calls p t g _).mono ?_
          rintro e w1 ⟨rfl, hb1⟩
          rw [HR.out]
          have p1 : w1.cell? ⟨w.heap.size, 1, none⟩ = some (.int .i64 t) := (HL.out.bw hb1).cell 1 _ rfl
          go_wp2_with fail
          refine (qawake_calls _).mono ?_
          rintro e w2 ⟨rfl, hb2⟩
          go_wp2_with fail
          go_ret
          exact ⟨rfl, (HB.out.trans hb1).trans hb2⟩
        · obtain ⟨T, rfl⟩ := Int.eq_ofNat_of_zero_le (show 0 ≤ t by have := right_t hr; omega)
          obtain ⟨n, rfl⟩ := Int.eq_ofNat_of_zero_le (show 0 ≤ a by omega)
          exact Rounds_good p g T hr (by omega) n (by omega) w
    · have d1 : decide (8 < t) = true := by simp; omega
      clear hr
      go_enter Try.func9, Try.ntmps9
      go_wp2_with fail
      refine (refRight5_calls p t g _).mono ?_
      rintro e w1 ⟨rfl, hb1⟩
      rw [HR.out]
      have p1 : w1.cell? ⟨w.heap.size, 1, none⟩ = some (.int .i64 t) := (HL.out.bw hb1).cell 1 _ rfl
      go_wp2_with fail
      refine (qawake_calls _).mono ?_
      rintro e w2 ⟨rfl, hb2⟩
      go_wp2_with fail
      go_ret
      exact ⟨rfl, (HB.out.trans hb1).trans hb2⟩
end Go.Proofs.Ytkmfbafgbaapiaa.M
