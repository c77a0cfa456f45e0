/- The law FairBound, walked: it answers true. Conditions: the arguments are of their kinds. -/
import Derived.Test.YtkmfbafgbaapiaaMq9
namespace Go.Proofs.Ytkmfbafgbaapiaa.M
open Go.RowKit Go.Maps Go.Proofs.YtkmfbafgbaapiaaW.PrintWords Go.Proofs.YtkmfbafgbaapiaaW.PrintLast Go.Proofs.YtkmfbafgbaapiaaW.PrintMore
set_option linter.unusedVariables false
set_option linter.unusedSimpArgs false
set_option maxRecDepth 100000
theorem Bound_not (p t g a : Int) (hr : rightB p t g = false) (w : World) : Calls Try.prog 40 #[.agg #[.int .i64 p, .int .i64 t, .int .i64 g], .int .i64 a] w fun e w' => e = .returned (.tuple #[.int .i64 0, .int .i64 1]) ∧ Bw w w' := by
  have HB := Aside0.mk ((Bw.refl w).alloc (.cells #[.int .i64 p, .int .i64 t, .int .i64 g] 49))
  have HR := Aside0.mk hr
  clear hr
  go_enter Try.func40, Try.ntmps40
  go_wp2_with fail
  refine (layRight_calls p t g _).mono ?_
  rintro e w1 ⟨rfl, hb1⟩
  rw [HR.out]
  go_wp2_with fail
  go_ret2
  exact ⟨rfl, HB.out.trans hb1⟩
theorem Bound_low (p t g a : Int) (hr : rightB p t g = true) (ha : a < 1) (w : World) : Calls Try.prog 40 #[.agg #[.int .i64 p, .int .i64 t, .int .i64 g], .int .i64 a] w fun e w' => e = .returned (.tuple #[.int .i64 0, .int .i64 1]) ∧ Bw w w' := by
  have HB := Aside0.mk ((Bw.refl w).alloc (.cells #[.int .i64 p, .int .i64 t, .int .i64 g] 49))
  have HR := Aside0.mk hr
  have d1 : decide (a < 1) = true := by simp; omega
  clear hr ha
  go_enter Try.func40, Try.ntmps40
  go_wp2_with fail
  refine (layRight_calls p t g _).mono ?_
  rintro e w1 ⟨rfl, hb1⟩
  rw [HR.out]
  go_wp2_with fail
  go_ret2
  exact ⟨rfl, HB.out.trans hb1⟩
theorem right_g {p t g : Int} (h : rightB p t g = true) : 1 ≤ g ∧ g ≤ 65536 := by unfold rightB at h; simp at h; omega
theorem Bound_long (p t g a : Int) (hr : rightB p t g = true) (ha : 1 ≤ a) (hl : 1073741824 / (61 * (g + 256)) < a) (w : World) : Calls Try.prog 40 #[.agg #[.int .i64 p, .int .i64 t, .int .i64 g], .int .i64 a] w fun e w' => e = .returned (.tuple #[.int .i64 0, .int .i64 2]) ∧ Bw w w' := by
  have HB := Aside0.mk ((Bw.refl w).alloc (.cells #[.int .i64 p, .int .i64 t, .int .i64 g] 49))
  have HL := Aside0.mk (Blk.new w #[.int .i64 p, .int .i64 t, .int .i64 g] 49)
  have HR := Aside0.mk hr
  have hg := right_g hr
  obtain ⟨g1, g2⟩ := hg
  have d1 : decide (a < 1) = false := by simp; omega
  have d2 : decide (1073741824 / (61 * (g + 256)) < a) = true := by simpa using hl
  clear hr
  go_enter Try.func40, Try.ntmps40
  go_wp2_with fail
  refine (layRight_calls p t g _).mono ?_
  rintro e w1 ⟨rfl, hb1⟩
  rw [HR.out]
  have p2 : w1.cell? ⟨w.heap.size, 2, none⟩ = some (.int .i64 g) := (HL.out.bw hb1).cell 2 _ rfl
  go_wp2_with fail
  go_ret2
  exact ⟨rfl, HB.out.trans hb1⟩
theorem bound_small {g a : Int} (g1 : 1 ≤ g) (g2 : g ≤ 65536) (ha : 1 ≤ a) (hl : a ≤ 1073741824 / (61 * (g + 256))) : a ≤ 68491 ∧ 0 ≤ a * 4294967296 * (61 * (g + 256)) ∧ a * 4294967296 * (61 * (g + 256)) ≤ 4611686018427387904 ∧ a * 4294967296 * (61 * (g + 256)) = a * (261993005056 * (g + 256)) := by
  have hE : (0 : Int) < 61 * (g + 256) := by omega
  have h1 : a * (61 * (g + 256)) ≤ 1073741824 := Int.le_trans (Int.mul_le_mul_of_nonneg_right hl (by omega)) (Int.ediv_mul_le _ (by omega))
  have h2 : a * 15677 ≤ a * (61 * (g + 256)) := Int.mul_le_mul_of_nonneg_left (by omega) (by omega)
  have h3 : a * 4294967296 * (61 * (g + 256)) = (a * (61 * (g + 256))) * 4294967296 := by rw [Int.mul_assoc, Int.mul_comm 4294967296, ← Int.mul_assoc]
  have h4 : a * (261993005056 * (g + 256)) = (a * (61 * (g + 256))) * 4294967296 := by
    rw [Int.mul_assoc]
    congr 1
    omega
  refine ⟨by omega, by rw [h3]; omega, by rw [h3]; omega, by rw [h3, h4]⟩
theorem Bound_ok (p t g a : Int) (hr : rightB p t g = true) (ha : 1 ≤ a) (hl : a ≤ 1073741824 / (61 * (g + 256))) (w : World) : Calls Try.prog 40 #[.agg #[.int .i64 p, .int .i64 t, .int .i64 g], .int .i64 a] w fun e w' => e = .returned (.tuple #[.int .i64 (a * (261993005056 * (g + 256))), .int .i64 0]) ∧ Bw w w' := by
  have HB := Aside0.mk ((Bw.refl w).alloc (.cells #[.int .i64 p, .int .i64 t, .int .i64 g] 49))
  have HL := Aside0.mk (Blk.new w #[.int .i64 p, .int .i64 t, .int .i64 g] 49)
  have HR := Aside0.mk hr
  have hg := right_g hr
  obtain ⟨g1, g2⟩ := hg
  obtain ⟨s1, s2, s3, s4⟩ := bound_small g1 g2 ha hl
  have HS := Aside0.mk s4
  have d1 : decide (a < 1) = false := by simp; omega
  have d2 : decide (1073741824 / (61 * (g + 256)) < a) = false := by simpa using hl
  clear hr s4
  go_enter Try.func40, Try.ntmps40
  go_wp2_with fail
  refine (layRight_calls p t g _).mono ?_
  rintro e w1 ⟨rfl, hb1⟩
  rw [HR.out]
  have p2 : w1.cell? ⟨w.heap.size, 2, none⟩ = some (.int .i64 g) := (HL.out.bw hb1).cell 2 _ rfl
  go_wp2_with fail
  go_ret2
  exact ⟨congrArg (fun x => Ending.returned (.tuple #[.int .i64 x, .int .i64 0])) HS.out, HB.out.trans hb1⟩
theorem quo_same {g : Int} (g1 : 1 ≤ g) : 4611686018427387904 / (261993005056 * (g + 256)) = 1073741824 / (61 * (g + 256)) := by
  rw [show (261993005056 : Int) * (g + 256) = 4294967296 * (61 * (g + 256)) by omega, show (4611686018427387904 : Int) = 4294967296 * 1073741824 by omega, Int.mul_ediv_mul_of_pos _ _ (by omega)]
set_option maxHeartbeats 1000000 in
theorem FairBound_walk (w : World) (cs : List Value) (f : Fits [.int .i64, .int .i64, .int .i64] cs) (a : Int) (wa : (Lit.int .i64 a).wf = true) :
    Calls Try.prog 11 #[.agg cs.toArray, .int .i64 a] w fun e w' => e = .returned (.bool true) ∧ Bw w w' := by
  obtain ⟨p, _, rfl, _, h1⟩ := f.int
  obtain ⟨t, _, rfl, _, h2⟩ := h1.int
  obtain ⟨g, _, rfl, _, h3⟩ := h2.int
  obtain rfl := h3.nil
  have HB := Aside0.mk ((Bw.refl w).alloc (.cells #[.int .i64 p, .int .i64 t, .int .i64 g] 49))
  have HL := Aside0.mk (Blk.new w #[.int .i64 p, .int .i64 t, .int .i64 g] 49)
  clear f h1 h2 h3 wa
  cases hr : rightB p t g
  · have HR := Aside0.mk hr
    clear hr
    go_enter Try.func11, Try.ntmps11
    go_wp2_with fail
    refine (Bound_not p t g a HR.out _).mono ?_
    rintro e w1 ⟨rfl, hb1⟩
    have HL1 := HL.out.bw hb1
    have p0 : w1.cell? ⟨w.heap.size, 0, none⟩ = some (.int .i64 p) := HL1.cell 0 _ rfl
    have p1 : w1.cell? ⟨w.heap.size, 1, none⟩ = some (.int .i64 t) := HL1.cell 1 _ rfl
    have p2 : w1.cell? ⟨w.heap.size, 2, none⟩ = some (.int .i64 g) := HL1.cell 2 _ rfl
    clear HL1
    go_wp2_with fail
    refine (refRight5_calls p t g _).mono ?_
    rintro e w2 ⟨rfl, hb2⟩
    rw [HR.out]
    go_wp2_with fail
    refine (qawake_calls _).mono ?_
    rintro e w3 ⟨rfl, hb3⟩
    go_wp2_with fail
    go_ret
    exact ⟨rfl, ((HB.out.trans hb1).trans hb2).trans hb3⟩
  · have HR := Aside0.mk hr
    by_cases ha : a < 1
    · have d1 : decide (a < 1) = true := by simp; omega
      clear hr
      go_enter Try.func11, Try.ntmps11
      go_wp2_with fail
      refine (Bound_low p t g a HR.out ha _).mono ?_
      rintro e w1 ⟨rfl, hb1⟩
      have HL1 := HL.out.bw hb1
      have p0 : w1.cell? ⟨w.heap.size, 0, none⟩ = some (.int .i64 p) := HL1.cell 0 _ rfl
      have p1 : w1.cell? ⟨w.heap.size, 1, none⟩ = some (.int .i64 t) := HL1.cell 1 _ rfl
      have p2 : w1.cell? ⟨w.heap.size, 2, none⟩ = some (.int .i64 g) := HL1.cell 2 _ rfl
      clear HL1
      go_wp2_with fail
      refine (refRight5_calls p t g _).mono ?_
      rintro e w2 ⟨rfl, hb2⟩
      rw [HR.out]
      go_wp2_with fail
      refine (qawake_calls _).mono ?_
      rintro e w3 ⟨rfl, hb3⟩
      go_wp2_with fail
      go_ret
      exact ⟨rfl, ((HB.out.trans hb1).trans hb2).trans hb3⟩
    · have hg := right_g hr
      obtain ⟨g1, g2⟩ := hg
      have HQ := Aside0.mk (quo_same g1)
      have d1 : decide (a < 1) = false := by simp; omega
      by_cases hl : 1073741824 / (61 * (g + 256)) < a
      · have d2 : decide (4611686018427387904 / (261993005056 * (g + 256)) < a) = true := by rw [HQ.out]; simpa using hl
        clear hr
        go_enter Try.func11, Try.ntmps11
        go_wp2_with fail
        refine (Bound_long p t g a HR.out (by omega) hl _).mono ?_
        rintro e w1 ⟨rfl, hb1⟩
        have HL1 := HL.out.bw hb1
        have p0 : w1.cell? ⟨w.heap.size, 0, none⟩ = some (.int .i64 p) := HL1.cell 0 _ rfl
        have p1 : w1.cell? ⟨w.heap.size, 1, none⟩ = some (.int .i64 t) := HL1.cell 1 _ rfl
        have p2 : w1.cell? ⟨w.heap.size, 2, none⟩ = some (.int .i64 g) := HL1.cell 2 _ rfl
        have HL1 := Aside0.mk HL1
        go_wp2_with fail
        refine (refRight5_calls p t g _).mono ?_
        rintro e w2 ⟨rfl, hb2⟩
        rw [HR.out]
        have p2' : w2.cell? ⟨w.heap.size, 2, none⟩ = some (.int .i64 g) := (HL1.out.bw hb2).cell 2 _ rfl
        go_wp2_with fail
        refine (qawake_calls _).mono ?_
        rintro e w3 ⟨rfl, hb3⟩
        go_wp2_with fail
        go_ret
        exact ⟨rfl, ((HB.out.trans hb1).trans hb2).trans hb3⟩
      · have d2 : decide (4611686018427387904 / (261993005056 * (g + 256)) < a) = false := by rw [HQ.out]; simpa using hl
        obtain ⟨s1, s2, s3, s4⟩ := bound_small g1 g2 (by omega) (show a ≤ 1073741824 / (61 * (g + 256)) by omega)
        rw [s4] at s2 s3
        clear hr s4
        go_enter Try.func11, Try.ntmps11
        go_wp2_with fail
        refine (Bound_ok p t g a HR.out (by omega) (by omega) _).mono ?_
        rintro e w1 ⟨rfl, hb1⟩
        have HL1 := HL.out.bw hb1
        have p0 : w1.cell? ⟨w.heap.size, 0, none⟩ = some (.int .i64 p) := HL1.cell 0 _ rfl
        have p1 : w1.cell? ⟨w.heap.size, 1, none⟩ = some (.int .i64 t) := HL1.cell 1 _ rfl
        have p2 : w1.cell? ⟨w.heap.size, 2, none⟩ = some (.int .i64 g) := HL1.cell 2 _ rfl
        have HL1 := Aside0.mk HL1
        go_wp2_with fail
        refine (refRight5_calls p t g _).mono ?_
        rintro e w2 ⟨rfl, hb2⟩
        rw [HR.out]
        have p2' : w2.cell? ⟨w.heap.size, 2, none⟩ = some (.int .i64 g) := (HL1.out.bw hb2).cell 2 _ rfl
        go_wp2_with fail
        refine (qawake_calls _).mono ?_
        rintro e w3 ⟨rfl, hb3⟩
        go_wp2_with fail
        go_ret
        exact ⟨by first | rfl | simp, ((HB.out.trans hb1).trans hb2).trans hb3⟩
end Go.Proofs.Ytkmfbafgbaapiaa.M
