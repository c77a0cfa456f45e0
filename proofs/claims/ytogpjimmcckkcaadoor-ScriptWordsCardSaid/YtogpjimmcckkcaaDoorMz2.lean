/- What the reference of package code answers: Parts, Instr. Conditions: the arguments are of their kinds. -/
import Derived.Test.YtogpjimmcckkcaaDoorMd
namespace Go.Proofs.YtogpjimmcckkcaaDoor.M
open Go.RowKit Go.Proofs.YtogpjimmcckkcaaDoorW.PrintWords Go.Proofs.YtogpjimmcckkcaaDoorW.PrintLast Go.Proofs.YtogpjimmcckkcaaDoorW.PrintMore
attribute [local go_sem] max2_int min2_int max_two min_two
set_option linter.unusedVariables false
set_option linter.unusedSimpArgs false

theorem Parts_calls (x : Int) (h0 : 0 ≤ x) (h1 : x < 18446744073709551616) (w : World) :
    Calls Tryd.prog 58 #[.int .u64 x] w fun e w' => e = .returned (.bool (prt x)) ∧ Bw w w' := by
  have HB := Aside0.mk (Bw.refl w)
  have hm : 0 ≤ x % 8 ∧ x % 8 < 8 := by omega
  by_cases hb : x < 281474976710656
  · have d1 : decide (x < 281474976710656) = true := by simpa using hb
    have HP := Aside0.mk (show prt x = (x % 8 == 7) by unfold prt top48; simp; omega)
    clear hb
    go_enter Tryd.func58, Tryd.ntmps58
    go_wp2_with fail
    go_ret
    refine ⟨ret_bool HP.out.symm, HB.out⟩
  · have d1 : decide (x < 281474976710656) = false := by simpa using hb
    have HP := Aside0.mk (show prt x = false by unfold prt top48; simp; omega)
    clear hb
    go_enter Tryd.func58, Tryd.ntmps58
    go_wp2_with fail
    go_ret
    refine ⟨ret_bool HP.out.symm, HB.out⟩

/-- The reference's instruction of any word. -/
def insR (w p : Int) : Int × Int := if prt w then (7, 0) else ins w p

set_option maxHeartbeats 1000000 in
theorem codeRefInstr_calls (x p : Int) (h0 : 0 ≤ x) (h1 : x < 18446744073709551616) (hp : p < 9223372036854775808) (w : World) :
    Calls Tryd.prog 59 #[.int .u64 x, .int .i64 p] w fun e w' => e = .returned (.agg #[.int .i64 (insR x p).1, .int .i64 (insR x p).2]) ∧ Bw w w' := by
  have HB := Aside0.mk (Bw.refl w)
  by_cases hb : 281474976710656 ≤ x
  · have HI := Aside0.mk (show insR x p = (0, 0) by
      have : prt x = false := by unfold prt top48; simp; omega
      unfold insR; rw [this]; simp; unfold ins top48; rw [if_pos hb])
    have d1 : decide (281474976710656 ≤ x) = true := by simpa using hb
    clear hb
    go_enter Tryd.func59, Tryd.ntmps59
    go_wp2_with fail
    refine bodyPost_ret (v := .agg #[.int .i64 (insR x p).1, .int .i64 (insR x p).2]) ?_ rfl ⟨rfl, (by repeat (first | (with_reducible first | exact HB.out) | refine Bw.alloc ?_ _ | refine Bw.setCell ?_ (by first | exact Nat.le_refl _ | (simp; omega)) _ | refine Bw.drew ?_ | refine Bw.drewN ?_ _))⟩
    rw [HI.out]
    simp [results, Tryd.results59, go_sem]
  · have d1 : decide (281474976710656 ≤ x) = false := by simpa using hb
    have k0 : 0 ≤ x % 8 := by omega
    have k1 : x % 8 < 8 := by omega
    have q0 : 0 ≤ x / 8 := by omega
    have q1 : x / 8 < 35184372088832 := by omega
    have hp7 : prt x = (x % 8 == 7) := by unfold prt top48; simp; omega
    have hi : insR x p = if x % 8 = 1 then (1, 1 + x / 8 % 16) else if x % 8 = 2 then (2, x / 8 % atl1 p) else if x % 8 = 5 then (5, x / 8 % 65536) else (x % 8, 0) := by
      unfold insR
      rw [hp7]
      by_cases h7 : x % 8 = 7
      · rw [h7]; simp
      · rw [if_neg (by simpa using h7)]
        unfold ins top48; rw [if_neg hb, if_neg h7]
    by_cases c1' : x % 8 = 1
    · have HI := Aside0.mk (show insR x p = (1, 1 + x / 8 % 16) by rw [hi, if_pos c1'])
      have r0 : 0 ≤ x / 8 % 16 := by omega
      have r1 : x / 8 % 16 < 16 := by omega
      have d2 : (x % 8 == 1) = true := by simpa using c1'
      clear hi hp7 hb c1'
      go_enter Tryd.func59, Tryd.ntmps59
      go_wp2_with fail
      refine bodyPost_ret (v := .agg #[.int .i64 (insR x p).1, .int .i64 (insR x p).2]) ?_ rfl ⟨rfl, (by repeat (first | (with_reducible first | exact HB.out) | refine Bw.alloc ?_ _ | refine Bw.setCell ?_ (by first | exact Nat.le_refl _ | (simp; omega)) _ | refine Bw.drew ?_ | refine Bw.drewN ?_ _))⟩
      rw [HI.out]
      simp [results, Tryd.results59, go_sem]
    · have d2 : (x % 8 == 1) = false := by simpa using c1'
      by_cases c2' : x % 8 = 2
      · have hp1 : 1 ≤ atl1 p ∧ atl1 p < 9223372036854775808 := by unfold atl1; split <;> omega
        have HI := Aside0.mk (show insR x p = (2, x / 8 % atl1 p) by rw [hi, if_neg c1', if_pos c2'])
        have d3 : (x % 8 == 2) = true := by simpa using c2'
        have hr : 0 ≤ x / 8 % atl1 p ∧ x / 8 % atl1 p < atl1 p := ⟨Int.emod_nonneg _ (by omega), Int.emod_lt_of_pos _ (by omega)⟩
        clear hi hp7 hb c1' c2'
        go_enter Tryd.func59, Tryd.ntmps59
        go_wp2_with fail
        · have e0 : atl1 p = 1 := by unfold atl1; rw [if_pos h]
          have e1 : wrap64 0 = 0 := by unfold wrap64; omega
          rw [e1]
          refine bodyPost_ret (v := .agg #[.int .i64 (insR x p).1, .int .i64 (insR x p).2]) ?_ rfl ⟨rfl, (by repeat (first | (with_reducible first | exact HB.out) | refine Bw.alloc ?_ _ | refine Bw.setCell ?_ (by first | exact Nat.le_refl _ | (simp; omega)) _ | refine Bw.drew ?_ | refine Bw.drewN ?_ _))⟩
          rw [HI.out, e0]
          simp [results, Tryd.results59, go_sem]
        · have e0 : atl1 p = p := by unfold atl1; rw [if_neg (by omega)]
          rw [e0] at hr
          have e1 : wrap64 (x / 8 % p) = x / 8 % p := by unfold wrap64; omega
          rw [e1]
          refine bodyPost_ret (v := .agg #[.int .i64 (insR x p).1, .int .i64 (insR x p).2]) ?_ rfl ⟨rfl, (by repeat (first | (with_reducible first | exact HB.out) | refine Bw.alloc ?_ _ | refine Bw.setCell ?_ (by first | exact Nat.le_refl _ | (simp; omega)) _ | refine Bw.drew ?_ | refine Bw.drewN ?_ _))⟩
          rw [HI.out, e0]
          simp [results, Tryd.results59, go_sem]
      · have d3 : (x % 8 == 2) = false := by simpa using c2'
        by_cases c5' : x % 8 = 5
        · have HI := Aside0.mk (show insR x p = (5, x / 8 % 65536) by rw [hi, if_neg c1', if_neg c2', if_pos c5'])
          have d4 : (x % 8 == 5) = true := by simpa using c5'
          have hr : 0 ≤ x / 8 % 65536 ∧ x / 8 % 65536 < 65536 := by omega
          clear hi hp7 hb c1' c2' c5'
          go_enter Tryd.func59, Tryd.ntmps59
          go_wp2_with fail
          refine bodyPost_ret (v := .agg #[.int .i64 (insR x p).1, .int .i64 (insR x p).2]) ?_ rfl ⟨rfl, (by repeat (first | (with_reducible first | exact HB.out) | refine Bw.alloc ?_ _ | refine Bw.setCell ?_ (by first | exact Nat.le_refl _ | (simp; omega)) _ | refine Bw.drew ?_ | refine Bw.drewN ?_ _))⟩
          rw [HI.out]
          simp [results, Tryd.results59, go_sem]
        · have HI := Aside0.mk (show insR x p = (x % 8, 0) by rw [hi, if_neg c1', if_neg c2', if_neg c5'])
          have d4 : (x % 8 == 5) = false := by simpa using c5'
          clear hi hp7 hb c1' c2' c5'
          go_enter Tryd.func59, Tryd.ntmps59
          go_wp2_with fail
          refine bodyPost_ret (v := .agg #[.int .i64 (insR x p).1, .int .i64 (insR x p).2]) ?_ rfl ⟨rfl, (by repeat (first | (with_reducible first | exact HB.out) | refine Bw.alloc ?_ _ | refine Bw.setCell ?_ (by first | exact Nat.le_refl _ | (simp; omega)) _ | refine Bw.drew ?_ | refine Bw.drewN ?_ _))⟩
          rw [HI.out]
          simp [results, Tryd.results59, go_sem]
theorem refInstr_at {x n : Int} {y : Int × Int} (he : insR x n = y) (h0 : 0 ≤ x) (h1 : x < 18446744073709551616) (hp : n < 9223372036854775808) (w : World) :
    Calls Tryd.prog 59 #[.int .u64 x, .int .i64 n] w fun e w' => e = .returned (.agg #[.int .i64 y.1, .int .i64 y.2]) ∧ Bw w w' := he ▸ codeRefInstr_calls x n h0 h1 hp w
end Go.Proofs.YtogpjimmcckkcaaDoor.M
