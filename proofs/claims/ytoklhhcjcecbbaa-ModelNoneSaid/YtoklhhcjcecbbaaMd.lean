/- What Instr of package code, and Parts and Instr of its reference, answer. Conditions: the arguments are of their kinds. -/
import Derived.Test.YtoklhhcjcecbbaaMw0
namespace Go.Proofs.Ytoklhhcjcecbbaa.M
open Go.RowKit Go.Proofs.YtoklhhcjcecbbaaW.PrintWords Go.Proofs.YtoklhhcjcecbbaaW.PrintLast Go.Proofs.YtoklhhcjcecbbaaW.PrintMore
attribute [local go_sem] max2_int min2_int max_two min_two
set_option linter.unusedVariables false
set_option linter.unusedSimpArgs false

def top48 : Int := 281474976710656
def prt (w : Int) : Bool := decide (w < top48) && (w % 8 == 7)
def atl1 (p : Int) : Int := if p < 1 then 1 else p
/-- A word's instruction (of a word that parts programs: nought). -/
def ins (w p : Int) : Int × Int :=
  if top48 ≤ w then (0, 0)
  else if w % 8 = 7 then (0, 0)
  else if w % 8 = 1 then (1, 1 + w / 8 % 16)
  else if w % 8 = 2 then (2, w / 8 % atl1 p)
  else if w % 8 = 5 then (5, w / 8 % 65536)
  else (w % 8, 0)

set_option maxHeartbeats 2000000 in
theorem Instr_calls (x p : Int) (h0 : 0 ≤ x) (h1 : x < 18446744073709551616) (hp : p < 9223372036854775808) (w : World) :
    Calls Try.prog 57 #[.int .u64 x, .int .i64 p] w fun e w' => e = .returned (.tuple #[.agg #[.int .i64 (ins x p).1, .int .i64 (ins x p).2], .bool (!prt x)]) ∧ Bw w w' := by
  have HB := Aside0.mk (Bw.refl w)
  by_cases hb : 281474976710656 ≤ x
  · have HI := Aside0.mk (show ins x p = (0, 0) by unfold ins top48; rw [if_pos hb])
    have HP := Aside0.mk (show prt x = false by unfold prt top48; simp; omega)
    have d1 : decide (281474976710656 ≤ x) = true := by simpa using hb
    clear hb
    go_enter Try.func57, Try.ntmps57
    go_wp2_with fail
    refine bodyPost_ret (v := .tuple #[.agg #[.int .i64 (ins x p).1, .int .i64 (ins x p).2], .bool (!prt x)]) ?_ rfl ⟨rfl, (by repeat (first | (with_reducible first | exact HB.out) | refine Bw.alloc ?_ _ | refine Bw.setCell ?_ (by first | exact Nat.le_refl _ | (simp; omega)) _ | refine Bw.drew ?_ | refine Bw.drewN ?_ _))⟩
    rw [HI.out, HP.out]
    simp [results, Try.results57, go_sem]
  · have d1 : decide (281474976710656 ≤ x) = false := by simpa using hb
    have E8 := Aside0.mk (show x / 2 ^ (0 : Int).toNat % 2 ^ (3 : Int).toNat = x % 8 by simp)
    have E9 := Aside0.mk (show x / 2 ^ (3 : Int).toNat % 2 ^ (4 : Int).toNat = x / 8 % 16 by simp)
    have k0 : 0 ≤ x % 8 := by omega
    have k1 : x % 8 < 8 := by omega
    have q0 : 0 ≤ x / 8 := by omega
    have q1 : x / 8 < 35184372088832 := by omega
    have hi : ins x p = if x % 8 = 7 then (0, 0) else if x % 8 = 1 then (1, 1 + x / 8 % 16) else if x % 8 = 2 then (2, x / 8 % atl1 p) else if x % 8 = 5 then (5, x / 8 % 65536) else (x % 8, 0) := by
      unfold ins top48; rw [if_neg hb]
    have hp7 : prt x = (x % 8 == 7) := by unfold prt top48; simp; omega
    by_cases c7 : x % 8 = 7
    · have HI := Aside0.mk (show ins x p = (0, 0) by rw [hi, if_pos c7])
      have HP := Aside0.mk (show prt x = true by rw [hp7]; simpa using c7)
      have d7 : (x % 8 == 7) = true := by simpa using c7
      clear hi hp7 hb c7
      go_enter Try.func57, Try.ntmps57
      go_wp2_with fail
      refine (Bits_calls x 0 3 h0 h1 (by omega) (by omega) (by omega) (by omega) _).mono ?_
      rintro e w1 ⟨rfl, hb1⟩
      rw [E8.out]
      have B1 := (Blk.new w _ _).bw hb1
      have HW1 := Aside0.mk ((HB.out.alloc _).trans hb1)
      have c0 := B1.cell 0 (.int .i64 0) rfl
      have c1 := B1.cell 1 (.int .i64 0) rfl
      have f0 := B1.free 0
      have f1 := B1.free 1
      have hz := B1.lt
      go_wp2_with fail
      refine bodyPost_ret (v := .tuple #[.agg #[.int .i64 (ins x p).1, .int .i64 (ins x p).2], .bool (!prt x)]) ?_ rfl ⟨rfl, (by repeat (first | (with_reducible first | exact HB.out | exact HW1.out) | refine Bw.alloc ?_ _ | refine Bw.setCell ?_ (by first | exact Nat.le_refl _ | (simp; omega)) _ | refine Bw.drew ?_ | refine Bw.drewN ?_ _))⟩
      rw [HI.out, HP.out]
      simp [results, Try.results57, go_sem, c0, c1, hz]
    · have HP := Aside0.mk (show prt x = false by rw [hp7]; simpa using c7)
      have d7 : (x % 8 == 7) = false := by simpa using c7
      by_cases c1' : x % 8 = 1
      · have HI := Aside0.mk (show ins x p = (1, 1 + x / 8 % 16) by rw [hi, if_neg c7, if_pos c1'])
        have r0 : 0 ≤ x / 8 % 16 := by omega
        have r1 : x / 8 % 16 < 16 := by omega
        have d2 : (x % 8 == 1) = true := by simpa using c1'
        clear hi hp7 hb c7 d7
        have d7 : (x % 8 == 7) = false := by simp; omega
        have C1 := Aside0.mk c1'
        clear c1'
        go_enter Try.func57, Try.ntmps57
        go_wp2_with fail
        refine (Bits_calls x 0 3 h0 h1 (by omega) (by omega) (by omega) (by omega) _).mono ?_
        rintro e w1 ⟨rfl, hb1⟩
        rw [E8.out]
        have B1 := (Blk.new w _ _).bw hb1
        have HW1 := Aside0.mk ((HB.out.alloc _).trans hb1)
        have c0 := B1.cell 0 (.int .i64 0) rfl
        have c1 := B1.cell 1 (.int .i64 0) rfl
        have f0 := B1.free 0
        have f1 := B1.free 1
        have hz := B1.lt
        go_wp2_with fail
        refine (Bits_calls x 3 4 h0 h1 (by omega) (by omega) (by omega) (by omega) _).mono ?_
        rintro e w2 ⟨rfl, hb2⟩
        rw [E9.out]
        have B2 := (B1.alloc _).bw hb2
        have L2 := (Blk.new w1 #[.int .i64 (x % 8), .int .i64 0] 66).bw hb2
        have HW2 := Aside0.mk ((HW1.out.alloc _).trans hb2)
        have g0 := B2.cell 0 (.int .i64 0) rfl
        have g1 := B2.cell 1 (.int .i64 0) rfl
        have g2 := B2.free 0
        have g3 := B2.free 1
        have n0 := L2.cell 0 (.int .i64 (x % 8)) rfl
        have n1 := L2.cell 1 (.int .i64 0) rfl
        have n2 := L2.free 0
        have n3 := L2.free 1
        have hz2 : w1.heap.size < w2.heap.size := L2.lt
        go_wp2_with fail
        refine bodyPost_ret (v := .tuple #[.agg #[.int .i64 (ins x p).1, .int .i64 (ins x p).2], .bool (!prt x)]) ?_ rfl ⟨rfl, (by repeat (first | (with_reducible first | exact HB.out | exact HW1.out | exact HW2.out) | refine Bw.alloc ?_ _ | refine Bw.setCell ?_ (by first | exact Nat.le_refl _ | (simp; omega)) _ | refine Bw.drew ?_ | refine Bw.drewN ?_ _))⟩
        rw [HI.out, HP.out]
        simp [results, Try.results57, go_sem, g0, g1, hz, hz2, n0, n1]
        exact C1.out
      · have d2 : (x % 8 == 1) = false := by simpa using c1'
        by_cases c2' : x % 8 = 2
        · have hp1 : 1 ≤ atl1 p ∧ atl1 p < 9223372036854775808 := by unfold atl1; split <;> omega
          have HI := Aside0.mk (show ins x p = (2, x / 8 % atl1 p) by rw [hi, if_neg c7, if_neg c1', if_pos c2'])
          have d3 : (x % 8 == 2) = true := by simpa using c2'
          have HA := Aside0.mk (show (if p < 1 then 1 else p) = atl1 p from rfl)
          have hr : 0 ≤ x / 8 % atl1 p ∧ x / 8 % atl1 p < atl1 p := ⟨Int.emod_nonneg _ (by omega), Int.emod_lt_of_pos _ (by omega)⟩
          clear hi hp7 hb c7 c1' c2'
          go_enter Try.func57, Try.ntmps57
          go_wp2_with fail
          refine (Bits_calls x 0 3 h0 h1 (by omega) (by omega) (by omega) (by omega) _).mono ?_
          rintro e w1 ⟨rfl, hb1⟩
          rw [E8.out]
          have B1 := (Blk.new w _ _).bw hb1
          have HW1 := Aside0.mk ((HB.out.alloc _).trans hb1)
          have c0 := B1.cell 0 (.int .i64 0) rfl
          have c1 := B1.cell 1 (.int .i64 0) rfl
          have f0 := B1.free 0
          have f1 := B1.free 1
          have hz := B1.lt
          go_wp2_with fail
          · have e0 : atl1 p = 1 := by unfold atl1; rw [if_pos h]
            have e1 : wrap64 0 = 0 := by unfold wrap64; omega
            rw [e1]
            refine bodyPost_ret (v := .tuple #[.agg #[.int .i64 (ins x p).1, .int .i64 (ins x p).2], .bool (!prt x)]) ?_ rfl ⟨rfl, (by repeat (first | (with_reducible first | exact HB.out | exact HW1.out) | refine Bw.alloc ?_ _ | refine Bw.setCell ?_ (by first | exact Nat.le_refl _ | (simp; omega)) _ | refine Bw.drew ?_ | refine Bw.drewN ?_ _))⟩
            rw [HI.out, HP.out, e0]
            simp [results, Try.results57, go_sem, c0, c1, hz]
            exact by simpa using d3
          · have e0 : atl1 p = p := by unfold atl1; rw [if_neg (by omega)]
            rw [e0] at hr
            have e1 : wrap64 (x / 8 % p) = x / 8 % p := by unfold wrap64; omega
            rw [e1]
            refine bodyPost_ret (v := .tuple #[.agg #[.int .i64 (ins x p).1, .int .i64 (ins x p).2], .bool (!prt x)]) ?_ rfl ⟨rfl, (by repeat (first | (with_reducible first | exact HB.out | exact HW1.out) | refine Bw.alloc ?_ _ | refine Bw.setCell ?_ (by first | exact Nat.le_refl _ | (simp; omega)) _ | refine Bw.drew ?_ | refine Bw.drewN ?_ _))⟩
            rw [HI.out, HP.out, e0]
            simp [results, Try.results57, go_sem, c0, c1, hz]
            exact by simpa using d3
        · have d3 : (x % 8 == 2) = false := by simpa using c2'
          by_cases c5' : x % 8 = 5
          · have HI := Aside0.mk (show ins x p = (5, x / 8 % 65536) by rw [hi, if_neg c7, if_neg c1', if_neg c2', if_pos c5'])
            have d4 : (x % 8 == 5) = true := by simpa using c5'
            have hr : 0 ≤ x / 8 % 65536 ∧ x / 8 % 65536 < 65536 := by omega
            clear hi hp7 hb c7 c1' c2' c5'
            go_enter Try.func57, Try.ntmps57
            go_wp2_with fail
            refine (Bits_calls x 0 3 h0 h1 (by omega) (by omega) (by omega) (by omega) _).mono ?_
            rintro e w1 ⟨rfl, hb1⟩
            rw [E8.out]
            have B1 := (Blk.new w _ _).bw hb1
            have HW1 := Aside0.mk ((HB.out.alloc _).trans hb1)
            have c0 := B1.cell 0 (.int .i64 0) rfl
            have c1 := B1.cell 1 (.int .i64 0) rfl
            have f0 := B1.free 0
            have f1 := B1.free 1
            have hz := B1.lt
            go_wp2_with fail
            refine bodyPost_ret (v := .tuple #[.agg #[.int .i64 (ins x p).1, .int .i64 (ins x p).2], .bool (!prt x)]) ?_ rfl ⟨rfl, (by repeat (first | (with_reducible first | exact HB.out | exact HW1.out) | refine Bw.alloc ?_ _ | refine Bw.setCell ?_ (by first | exact Nat.le_refl _ | (simp; omega)) _ | refine Bw.drew ?_ | refine Bw.drewN ?_ _))⟩
            rw [HI.out, HP.out]
            simp [results, Try.results57, go_sem, c0, c1, hz]
            exact by simpa using d4
          · have HI := Aside0.mk (show ins x p = (x % 8, 0) by rw [hi, if_neg c7, if_neg c1', if_neg c2', if_neg c5'])
            have d4 : (x % 8 == 5) = false := by simpa using c5'
            clear hi hp7 hb c7 c1' c2' c5'
            go_enter Try.func57, Try.ntmps57
            go_wp2_with fail
            refine (Bits_calls x 0 3 h0 h1 (by omega) (by omega) (by omega) (by omega) _).mono ?_
            rintro e w1 ⟨rfl, hb1⟩
            rw [E8.out]
            have B1 := (Blk.new w _ _).bw hb1
            have HW1 := Aside0.mk ((HB.out.alloc _).trans hb1)
            have c0 := B1.cell 0 (.int .i64 0) rfl
            have c1 := B1.cell 1 (.int .i64 0) rfl
            have f0 := B1.free 0
            have f1 := B1.free 1
            have hz := B1.lt
            go_wp2_with fail
            refine bodyPost_ret (v := .tuple #[.agg #[.int .i64 (ins x p).1, .int .i64 (ins x p).2], .bool (!prt x)]) ?_ rfl ⟨rfl, (by repeat (first | (with_reducible first | exact HB.out | exact HW1.out) | refine Bw.alloc ?_ _ | refine Bw.setCell ?_ (by first | exact Nat.le_refl _ | (simp; omega)) _ | refine Bw.drew ?_ | refine Bw.drewN ?_ _))⟩
            rw [HI.out, HP.out]
            simp [results, Try.results57, go_sem, c0, c1, hz]
end Go.Proofs.Ytoklhhcjcecbbaa.M
