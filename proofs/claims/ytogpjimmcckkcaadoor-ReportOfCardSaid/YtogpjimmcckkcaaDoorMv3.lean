/- Report: the kind of a word; the number behind a letter. Condition: what the library's variables and the words' table hold. -/
import Derived.Test.YtogpjimmcckkcaaDoorMv2
namespace Go.Proofs.YtogpjimmcckkcaaDoor.M
open Go.RowKit Go.Proofs.YtogpjimmcckkcaaDoorW.PrintWords Go.Proofs.YtogpjimmcckkcaaDoorW.PrintLast Go.Proofs.YtogpjimmcckkcaaDoorW.PrintMore
set_option linter.unusedVariables false
set_option linter.unusedSimpArgs false
/-- The kind of a word, from a kind on. -/
def kindFrom (u : List UInt8) : Nat → Nat → Int
  | 0, _ => 0
  | n + 1, k => if 0 < k ∧ evW k = u then k else kindFrom u n (k + 1)
def kindR (u : List UInt8) : Int := kindFrom u 12 0
theorem kindR_eq (u : List UInt8) : kindFrom u 12 0 = kindR u := rfl
theorem kindFrom_end (u : List UInt8) : kindFrom u (12 - 12) 12 = 0 := rfl
theorem kindFrom_step (u : List UInt8) (k : Nat) (hlt : k < 12) : kindFrom u (12 - k) k = if 0 < k ∧ evW k = u then (k : Int) else kindFrom u (12 - (k + 1)) (k + 1) := by
  obtain ⟨n, hn⟩ : ∃ n, 12 - k = n + 1 := ⟨11 - k, by omega⟩
  rw [hn, kindFrom, show 12 - (k + 1) = n by omega]
theorem indexEv : ∀ (k : Nat) (hk : k < 12) (W : World), (Instr.index 82 (.agg #[strV (evW 0), strV (evW 1), strV (evW 2), strV (evW 3), strV (evW 4), strV (evW 5), strV (evW 6), strV (evW 7), strV (evW 8), strV (evW 9), strV (evW 10), strV (evW 11)]) (.int .i64 (k : Int))).run Tryd.prog W = .ok (strV (evW k)) W
  | 0, _, W => show (Instr.index 82 (.agg #[strV (evW 0), strV (evW 1), strV (evW 2), strV (evW 3), strV (evW 4), strV (evW 5), strV (evW 6), strV (evW 7), strV (evW 8), strV (evW 9), strV (evW 10), strV (evW 11)]) (.int .i64 ((0 : Nat) : Int))).run Tryd.prog W = .ok (strV (evW 0)) W from by kernel_rfl
  | 1, _, W => show (Instr.index 82 (.agg #[strV (evW 0), strV (evW 1), strV (evW 2), strV (evW 3), strV (evW 4), strV (evW 5), strV (evW 6), strV (evW 7), strV (evW 8), strV (evW 9), strV (evW 10), strV (evW 11)]) (.int .i64 ((1 : Nat) : Int))).run Tryd.prog W = .ok (strV (evW 1)) W from by kernel_rfl
  | 2, _, W => show (Instr.index 82 (.agg #[strV (evW 0), strV (evW 1), strV (evW 2), strV (evW 3), strV (evW 4), strV (evW 5), strV (evW 6), strV (evW 7), strV (evW 8), strV (evW 9), strV (evW 10), strV (evW 11)]) (.int .i64 ((2 : Nat) : Int))).run Tryd.prog W = .ok (strV (evW 2)) W from by kernel_rfl
  | 3, _, W => show (Instr.index 82 (.agg #[strV (evW 0), strV (evW 1), strV (evW 2), strV (evW 3), strV (evW 4), strV (evW 5), strV (evW 6), strV (evW 7), strV (evW 8), strV (evW 9), strV (evW 10), strV (evW 11)]) (.int .i64 ((3 : Nat) : Int))).run Tryd.prog W = .ok (strV (evW 3)) W from by kernel_rfl
  | 4, _, W => show (Instr.index 82 (.agg #[strV (evW 0), strV (evW 1), strV (evW 2), strV (evW 3), strV (evW 4), strV (evW 5), strV (evW 6), strV (evW 7), strV (evW 8), strV (evW 9), strV (evW 10), strV (evW 11)]) (.int .i64 ((4 : Nat) : Int))).run Tryd.prog W = .ok (strV (evW 4)) W from by kernel_rfl
  | 5, _, W => show (Instr.index 82 (.agg #[strV (evW 0), strV (evW 1), strV (evW 2), strV (evW 3), strV (evW 4), strV (evW 5), strV (evW 6), strV (evW 7), strV (evW 8), strV (evW 9), strV (evW 10), strV (evW 11)]) (.int .i64 ((5 : Nat) : Int))).run Tryd.prog W = .ok (strV (evW 5)) W from by kernel_rfl
  | 6, _, W => show (Instr.index 82 (.agg #[strV (evW 0), strV (evW 1), strV (evW 2), strV (evW 3), strV (evW 4), strV (evW 5), strV (evW 6), strV (evW 7), strV (evW 8), strV (evW 9), strV (evW 10), strV (evW 11)]) (.int .i64 ((6 : Nat) : Int))).run Tryd.prog W = .ok (strV (evW 6)) W from by kernel_rfl
  | 7, _, W => show (Instr.index 82 (.agg #[strV (evW 0), strV (evW 1), strV (evW 2), strV (evW 3), strV (evW 4), strV (evW 5), strV (evW 6), strV (evW 7), strV (evW 8), strV (evW 9), strV (evW 10), strV (evW 11)]) (.int .i64 ((7 : Nat) : Int))).run Tryd.prog W = .ok (strV (evW 7)) W from by kernel_rfl
  | 8, _, W => show (Instr.index 82 (.agg #[strV (evW 0), strV (evW 1), strV (evW 2), strV (evW 3), strV (evW 4), strV (evW 5), strV (evW 6), strV (evW 7), strV (evW 8), strV (evW 9), strV (evW 10), strV (evW 11)]) (.int .i64 ((8 : Nat) : Int))).run Tryd.prog W = .ok (strV (evW 8)) W from by kernel_rfl
  | 9, _, W => show (Instr.index 82 (.agg #[strV (evW 0), strV (evW 1), strV (evW 2), strV (evW 3), strV (evW 4), strV (evW 5), strV (evW 6), strV (evW 7), strV (evW 8), strV (evW 9), strV (evW 10), strV (evW 11)]) (.int .i64 ((9 : Nat) : Int))).run Tryd.prog W = .ok (strV (evW 9)) W from by kernel_rfl
  | 10, _, W => show (Instr.index 82 (.agg #[strV (evW 0), strV (evW 1), strV (evW 2), strV (evW 3), strV (evW 4), strV (evW 5), strV (evW 6), strV (evW 7), strV (evW 8), strV (evW 9), strV (evW 10), strV (evW 11)]) (.int .i64 ((10 : Nat) : Int))).run Tryd.prog W = .ok (strV (evW 10)) W from by kernel_rfl
  | 11, _, W => show (Instr.index 82 (.agg #[strV (evW 0), strV (evW 1), strV (evW 2), strV (evW 3), strV (evW 4), strV (evW 5), strV (evW 6), strV (evW 7), strV (evW 8), strV (evW 9), strV (evW 10), strV (evW 11)]) (.int .i64 ((11 : Nat) : Int))).run Tryd.prog W = .ok (strV (evW 11)) W from by kernel_rfl
  | q + 12, h, _ => absurd h (by omega)
section
attribute [local irreducible] evW kindFrom kindR
set_option maxHeartbeats 1000000 in
set_option maxRecDepth 10000 in
theorem Kind_calls (u : List UInt8) (w : World) (he : EnvR w) : Calls Tryd.prog 27 #[.string (bs u)] w fun e w' => e = .returned (.int .i64 (kindR u)) ∧ Bw w w' := by
  have HE := Aside0.mk he
  have HB := Aside0.mk (Bw.refl w)
  have hkR := Aside0.mk (kindR_eq u)
  have k0 : w.cell? ⟨0, 0, none⟩ = some (strV (evW 0)) := he.kinds 0 (by omega)
  have k1 : w.cell? ⟨0, 1, none⟩ = some (strV (evW 1)) := he.kinds 1 (by omega)
  have k2 : w.cell? ⟨0, 2, none⟩ = some (strV (evW 2)) := he.kinds 2 (by omega)
  have k3 : w.cell? ⟨0, 3, none⟩ = some (strV (evW 3)) := he.kinds 3 (by omega)
  have k4 : w.cell? ⟨0, 4, none⟩ = some (strV (evW 4)) := he.kinds 4 (by omega)
  have k5 : w.cell? ⟨0, 5, none⟩ = some (strV (evW 5)) := he.kinds 5 (by omega)
  have k6 : w.cell? ⟨0, 6, none⟩ = some (strV (evW 6)) := he.kinds 6 (by omega)
  have k7 : w.cell? ⟨0, 7, none⟩ = some (strV (evW 7)) := he.kinds 7 (by omega)
  have k8 : w.cell? ⟨0, 8, none⟩ = some (strV (evW 8)) := he.kinds 8 (by omega)
  have k9 : w.cell? ⟨0, 9, none⟩ = some (strV (evW 9)) := he.kinds 9 (by omega)
  have k10 : w.cell? ⟨0, 10, none⟩ = some (strV (evW 10)) := he.kinds 10 (by omega)
  have k11 : w.cell? ⟨0, 11, none⟩ = some (strV (evW 11)) := he.kinds 11 (by omega)
  clear he
  go_enter Tryd.func27, Tryd.ntmps27
  go_wp2_with fail
  go_loopw [6] (fun kv wr => ∃ k : Nat, k ≤ 12 ∧ kv = .int .i64 k ∧ Aside0 (kindFrom u (12 - k) k = kindR u) ∧ Aside0 (Bw w wr)) (fun kv _ => 12 - (intOf kv).toNat)
  case atStart => exact ⟨0, by omega, rfl, hkR, HB⟩
  case round =>
    obtain ⟨k, hk, rfl, HF, HW⟩ := hrel
    by_cases hlt : k < 12
    · have hF := kindFrom_step u k hlt
      rw [HF.out] at hF
      obtain ⟨y, hy⟩ : ∃ y, y = evW k := ⟨_, rfl⟩
      rw [← hy] at hF
      have hidx := indexEv k hlt
      rw [← hy] at hidx
      by_cases h0 : 0 < k
      · have d1 : decide (0 < k) = true := decide_eq_true h0
        cases hq : (y == u)
        · rw [if_neg (by rintro ⟨_, h⟩; rw [h] at hq; simp at hq)] at hF
          have HF1 := Aside0.mk hF.symm
          clear hF hy HF
          go_wp2_with fail
          go_roundw
          case rel => exact ⟨k + 1, by omega, by go_num, HF1, HW⟩
          case measure => simp [intOf]; omega
        · rw [if_pos ⟨h0, beq_iff_eq.1 hq⟩] at hF
          have HF1 := Aside0.mk hF
          clear hF hy HF
          go_wp2_with fail
          go_ret
          rw [HF1.out]
          exact ⟨rfl, HW.out⟩
      · have d1 : decide (0 < k) = false := decide_eq_false h0
        rw [if_neg (by rintro ⟨h, _⟩; exact h0 h)] at hF
        have HF1 := Aside0.mk hF.symm
        clear hF hy HF
        go_wp2_with fail
        go_roundw
        case rel => exact ⟨k + 1, by omega, by go_num, HF1, HW⟩
        case measure => simp [intOf]; omega
    · obtain rfl : k = 12 := by omega
      have HF1 := Aside0.mk (show (0 : Int) = kindR u by rw [← kindFrom_end u]; exact HF.out)
      go_wp2_with fail
      go_ret
      rw [← HF1.out]
      exact ⟨rfl, HW.out⟩
end
end Go.Proofs.YtogpjimmcckkcaaDoor.M
