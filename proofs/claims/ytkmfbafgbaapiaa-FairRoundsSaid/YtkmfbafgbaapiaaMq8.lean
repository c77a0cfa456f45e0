/- Rounds, one behind the other: the plain law. No program. -/
import Derived.Test.YtkmfbafgbaapiaaMq7
namespace Go.Proofs.Ytkmfbafgbaapiaa.M
open Go.RowKit Go.Maps Go.Proofs.YtkmfbafgbaapiaaW.PrintWords
set_option linter.unusedVariables false
set_option linter.unusedSimpArgs false
theorem stepL_get (q : Int) (t b : Nat) (h : b < t) : (stepL q t)[b]? = some (q, (b : Int)) := by unfold stepL; simp [h]
def rndAt (T b : Nat) : En := if b < T then (1, (b : Int)) else if b < 2 * T then (4, ((b - T : Nat) : Int)) else if b < 2 * T + 4 then (2, 0) else (3, 0)
theorem roundL_len (T : Nat) : (roundL T).length = 2 * T + 5 := by
  unfold roundL
  rw [List.length_append, List.length_append, accJ_len, List.length_replicate]
  rfl
theorem roundL_get (T b : Nat) (h : b < 2 * T + 5) : (roundL T)[b]? = some (rndAt T b) := by
  have e : roundL T = stepL 1 T ++ (stepL 4 T ++ (List.replicate 4 (2, 0) ++ [(3, 0)])) := by
    unfold roundL
    show (([] ++ stepL (qOf 0) T) ++ stepL (qOf 1) T) ++ List.replicate 4 (2, 0) ++ [(3, 0)] = _
    simp [qOf]
  rw [e]
  unfold rndAt
  by_cases h1 : b < T
  · rw [if_pos h1, List.getElem?_append_left (by rw [stepL_len]; exact h1), stepL_get _ _ _ h1]
  · rw [if_neg h1, List.getElem?_append_right (by rw [stepL_len]; omega), stepL_len]
    by_cases h2 : b < 2 * T
    · rw [if_pos h2, List.getElem?_append_left (by rw [stepL_len]; omega), stepL_get _ _ _ (by omega)]
    · rw [if_neg h2, List.getElem?_append_right (by rw [stepL_len]; omega), stepL_len]
      by_cases h3 : b < 2 * T + 4
      · rw [if_pos h3, List.getElem?_append_left (by rw [List.length_replicate]; omega), List.getElem?_replicate, if_pos (by omega)]
      · rw [if_neg h3, List.getElem?_append_right (by rw [List.length_replicate]; omega), List.length_replicate, show b - T - T - 4 = 0 by omega]
        rfl
def repL (k T : Nat) : List En := (List.replicate k (roundL T)).flatten
theorem repL_succ (k T : Nat) : repL (k + 1) T = repL k T ++ roundL T := by
  unfold repL
  rw [List.replicate_succ', List.flatten_append]
  simp
theorem repL_len (k T : Nat) : (repL k T).length = k * (2 * T + 5) := by
  induction k with
  | zero => simp [repL]
  | succ k ih => rw [repL_succ, List.length_append, ih, roundL_len]; exact (Nat.succ_mul _ _).symm
theorem repL_get (T : Nat) : ∀ (k j : Nat), j < k * (2 * T + 5) → (repL k T)[j]? = some (rndAt T (j % (2 * T + 5)))
  | 0, j, h => by omega
  | k + 1, j, h => by
    rw [repL_succ]
    rw [Nat.succ_mul] at h
    by_cases h1 : j < k * (2 * T + 5)
    · rw [List.getElem?_append_left (by rw [repL_len]; exact h1), repL_get T k j h1]
    · rw [List.getElem?_append_right (by rw [repL_len]; omega), repL_len, roundL_get T _ (by omega)]
      congr 2
      have e : j = (j - k * (2 * T + 5)) + (2 * T + 5) * k := by rw [Nat.mul_comm (2 * T + 5) k]; omega
      conv => rhs; rw [e, Nat.add_mul_mod_self_left]
      rw [Nat.mod_eq_of_lt (by omega)]
theorem plain_wanted (T : Nat) (p : En) (hw : wantB T p = true) : ∃ b, b < 2 * T + 5 ∧ plainE (rndAt T b) = p := by
  obtain ⟨a, c⟩ := p
  unfold wantB at hw
  simp only [Bool.or_eq_true, Bool.and_eq_true, beq_iff_eq, decide_eq_true_eq, Prod.mk.injEq] at hw
  rcases hw with (⟨rfl, rfl⟩ | ⟨rfl, rfl⟩) | ⟨h4 | h4, h5, h6⟩
  · refine ⟨2 * T, by omega, ?_⟩
    unfold rndAt
    rw [if_neg (by omega), if_neg (by omega), if_pos (by omega)]
    rfl
  · refine ⟨2 * T + 4, by omega, ?_⟩
    unfold rndAt
    rw [if_neg (by omega), if_neg (by omega), if_neg (by omega)]
    rfl
  · refine ⟨c.toNat, by omega, ?_⟩
    unfold rndAt
    rw [if_pos (by omega), show ((c.toNat : Nat) : Int) = c by omega, h4]
    rfl
  · refine ⟨T + c.toNat, by omega, ?_⟩
    unfold rndAt
    rw [if_neg (by omega), if_pos (by omega), show ((T + c.toNat - T : Nat) : Int) = c by omega, h4]
    rfl
theorem first_alone (T b : Nat) (h0 : 0 < b) (hb : b < 2 * T + 5) : plainE (rndAt T b) ≠ (1, 0) := by
  unfold rndAt
  repeat' split
  · unfold plainE
    simp
    omega
  · unfold plainE
    simp
  · unfold plainE
    simp
  · unfold plainE
    simp
theorem mod_in (n i b : Nat) (hb : b < n) : ∃ j, i ≤ j ∧ j < i + n ∧ j % n = b := by
  by_cases h : b < i % n
  · refine ⟨i - i % n + n + b, ?_, ?_, ?_⟩
    · have := Nat.mod_lt i (show 0 < n by omega); omega
    · have := Nat.mod_le i n; omega
    · have e : i - i % n = n * (i / n) := by have := Nat.div_add_mod i n; omega
      rw [e, show n * (i / n) + n + b = b + n * (i / n + 1) by rw [Nat.mul_succ]; omega, Nat.add_mul_mod_self_left, Nat.mod_eq_of_lt hb]
  · refine ⟨i - i % n + b, ?_, ?_, ?_⟩
    · have := Nat.mod_le i n; omega
    · have := Nat.mod_le i n; omega
    · have e : i - i % n = n * (i / n) := by have := Nat.div_add_mod i n; omega
      rw [e, show n * (i / n) + b = b + n * (i / n) by omega, Nat.add_mul_mod_self_left, Nat.mod_eq_of_lt hb]
theorem round_win (T k : Nat) (hT : T ≤ 256) (h1 : 1 ≤ T) (hk : 1 ≤ k) : IsWin T (repL k T) (2 * T + 5) := by
  have hl := repL_len k T
  have hkn : 2 * T + 5 ≤ k * (2 * T + 5) := Nat.le_mul_of_pos_left _ hk
  refine .inl ⟨by omega, by rw [hl]; exact hkn, fun i hi => (right_sub T hT _ i _).2 fun p hp hw => ?_, fun w hw1 hw2 hg => ?_⟩
  · obtain ⟨b, hb, e⟩ := plain_wanted T p hw
    obtain ⟨j, j1, j2, j3⟩ := mod_in (2 * T + 5) i b hb
    rw [hl] at hi
    exact ⟨j, j1, j2, by rw [hit_some (repL_get T k j (by omega)), j3, e]; simp⟩
  · obtain ⟨j, j1, j2, j3⟩ := (right_sub T hT _ 1 w).1 (hg 1 (by rw [hl]; omega)) (1, 0) ⟨show (Lit.int .i64 1).wf = true by decide, show (Lit.int .i64 0).wf = true by decide⟩ (by unfold wantB; simp; omega)
    rw [hit_some (repL_get T k j (by omega)), Nat.mod_eq_of_lt (by omega)] at j3
    exact first_alone T j (by omega) (by omega) (by simpa using j3)
theorem repL_one (T : Nat) : repL 1 T = roundL T := by simp [repL]
theorem round_right (T : Nat) (hT : T ≤ 256) : rightL T (roundL T) = true := by
  rw [right_whole T hT]
  intro p hp hw
  obtain ⟨b, hb, e⟩ := plain_wanted T p hw
  exact ⟨b, by rw [roundL_len]; exact hb, by rw [hit_some (roundL_get T b hb), e]; simp⟩
theorem rnd_wf (T : Nat) (hT : T ≤ 256) (e : En) (he : e ∈ roundL T) : wfN e := by
  obtain ⟨b, hb⟩ := List.getElem?_of_mem he
  have hlt := (List.getElem?_eq_some_iff.1 hb).1
  rw [roundL_len] at hlt
  rw [roundL_get T b hlt] at hb
  obtain rfl := Option.some.inj hb
  unfold rndAt
  repeat' split
  · exact ⟨show (Lit.int .i64 1).wf = true by decide, wf_small _ (by omega)⟩
  · exact ⟨show (Lit.int .i64 4).wf = true by decide, wf_small _ (by omega)⟩
  · exact ⟨show (Lit.int .i64 2).wf = true by decide, show (Lit.int .i64 0).wf = true by decide⟩
  · exact ⟨show (Lit.int .i64 3).wf = true by decide, show (Lit.int .i64 0).wf = true by decide⟩
theorem rep_wf (k T : Nat) (hT : T ≤ 256) (e : En) (he : e ∈ repL k T) : wfN e := by
  unfold repL at he
  obtain ⟨r, hr, he⟩ := List.mem_flatten.1 he
  rw [List.eq_of_mem_replicate hr] at he
  exact rnd_wf T hT e he
theorem tail_not : rightL 2 ((roundL 2).drop 1) = false := by decide
end Go.Proofs.Ytkmfbafgbaapiaa.M
