/- Package fair: which configs are right; entries as they are wanted; all that are wanted. No condition. -/
import Derived.Test.YtkmfbafgbaapiaaMq
import Derived.RegionTactic
namespace Go.Proofs.Ytkmfbafgbaapiaa.M
open Go.RowKit Go.Maps Go.Proofs.YtkmfbafgbaapiaaW.PrintWords Go.Proofs.YtkmfbafgbaapiaaW.PrintLast Go.Proofs.YtkmfbafgbaapiaaW.PrintMore
set_option linter.unusedVariables false
set_option linter.unusedSimpArgs false
set_option maxRecDepth 100000
theorem entry_go {w : World} {b n : Nat} {D : DataW Unit} (h : isMp w b n D) (hn : n < maxLen) (p : En) (hp : wfN p) :
    ∃ (c st : Int) (w1 : World), (Instr.lookup 92 (.map (some b)) (aggN p) false).run Try.prog w = .ok (.int .i64 c) w ∧
      (Instr.mapEntry 92 (.map (some b)) (aggN p)).run Try.prog w = .ok (.tuple #[.int .i64 c, .int .i64 st]) w1 ∧
      (Instr.lookup 92 (.map (some b)) (aggN p) false).run Try.prog w1 = .ok (.int .i64 c) w1 ∧
      ∀ v : Int, (Lit.int .i64 v).wf = true → ∃ w2, (Instr.entryStore 92 (.map (some b)) (.int .i64 st) (.int .i64 v)).run Try.prog w1 = .ok () w2 ∧ isMp w2 b (n + 1) (D.put (kl p) (.lit (.int .i64 v))) ∧ w.grownBy w2 (some b) := by
  obtain ⟨c, st, w1, _, h1, h2, h3, h4⟩ := entry_any h hn p hp
  exact ⟨c, st, w1, h1, h2, h3, h4⟩
def rightB (p t g : Int) : Bool := decide (1 ≤ p ∧ p ≤ 64 ∧ p ≤ t ∧ t ≤ 256 ∧ 1 ≤ g ∧ g ≤ 65536)
theorem rightB_of {p t g : Int} {x : Bool} (h : x = true ↔ (1 ≤ p ∧ p ≤ 64 ∧ p ≤ t ∧ t ≤ 256 ∧ 1 ≤ g ∧ g ≤ 65536)) : x = rightB p t g := by
  unfold rightB
  apply Bool.eq_iff_iff.2
  rw [h]
  simp
theorem layRight_calls (p t g : Int) (w : World) : Calls Try.prog 60 #[.agg #[.int .i64 p, .int .i64 t, .int .i64 g]] w fun e w' => e = .returned (.bool (rightB p t g)) ∧ Bw w w' := by
  have HB := Aside0.mk (Bw.refl w)
  by_cases h0 : 1 ≤ p
  rotate_left
  · have HR := Aside0.mk (show rightB p t g = false from (rightB_of (by simp; omega)).symm)
    have d0 : decide (1 ≤ p) = false := by simp; omega
    clear h0
    go_enter Try.func60, Try.ntmps60
    go_wp2_with fail
    go_ret
    exact ⟨ret_bool HR.out.symm, (by repeat (first | (with_reducible first | exact HB.out) | refine Bw.alloc ?_ _ | refine Bw.setCell ?_ (by first | exact Nat.le_refl _ | (simp; omega)) _ | refine Bw.drew ?_ | refine Bw.drewN ?_ _))⟩
  by_cases h1 : p ≤ 64
  rotate_left
  · have HR := Aside0.mk (show rightB p t g = false from (rightB_of (by simp; omega)).symm)
    have d0 : decide (1 ≤ p) = true := by simp; omega
    have d1 : decide (p ≤ 64) = false := by simp; omega
    clear h0 h1
    go_enter Try.func60, Try.ntmps60
    go_wp2_with fail
    go_ret
    exact ⟨ret_bool HR.out.symm, (by repeat (first | (with_reducible first | exact HB.out) | refine Bw.alloc ?_ _ | refine Bw.setCell ?_ (by first | exact Nat.le_refl _ | (simp; omega)) _ | refine Bw.drew ?_ | refine Bw.drewN ?_ _))⟩
  by_cases h2 : p ≤ t
  rotate_left
  · have HR := Aside0.mk (show rightB p t g = false from (rightB_of (by simp; omega)).symm)
    have d0 : decide (1 ≤ p) = true := by simp; omega
    have d1 : decide (p ≤ 64) = true := by simp; omega
    have d2 : decide (p ≤ t) = false := by simp; omega
    clear h0 h1 h2
    go_enter Try.func60, Try.ntmps60
    go_wp2_with fail
    go_ret
    exact ⟨ret_bool HR.out.symm, (by repeat (first | (with_reducible first | exact HB.out) | refine Bw.alloc ?_ _ | refine Bw.setCell ?_ (by first | exact Nat.le_refl _ | (simp; omega)) _ | refine Bw.drew ?_ | refine Bw.drewN ?_ _))⟩
  by_cases h3 : t ≤ 256
  rotate_left
  · have HR := Aside0.mk (show rightB p t g = false from (rightB_of (by simp; omega)).symm)
    have d0 : decide (1 ≤ p) = true := by simp; omega
    have d1 : decide (p ≤ 64) = true := by simp; omega
    have d2 : decide (p ≤ t) = true := by simp; omega
    have d3 : decide (t ≤ 256) = false := by simp; omega
    clear h0 h1 h2 h3
    go_enter Try.func60, Try.ntmps60
    go_wp2_with fail
    go_ret
    exact ⟨ret_bool HR.out.symm, (by repeat (first | (with_reducible first | exact HB.out) | refine Bw.alloc ?_ _ | refine Bw.setCell ?_ (by first | exact Nat.le_refl _ | (simp; omega)) _ | refine Bw.drew ?_ | refine Bw.drewN ?_ _))⟩
  by_cases h4 : 1 ≤ g
  rotate_left
  · have HR := Aside0.mk (show rightB p t g = false from (rightB_of (by simp; omega)).symm)
    have d0 : decide (1 ≤ p) = true := by simp; omega
    have d1 : decide (p ≤ 64) = true := by simp; omega
    have d2 : decide (p ≤ t) = true := by simp; omega
    have d3 : decide (t ≤ 256) = true := by simp; omega
    have d4 : decide (1 ≤ g) = false := by simp; omega
    clear h0 h1 h2 h3 h4
    go_enter Try.func60, Try.ntmps60
    go_wp2_with fail
    go_ret
    exact ⟨ret_bool HR.out.symm, (by repeat (first | (with_reducible first | exact HB.out) | refine Bw.alloc ?_ _ | refine Bw.setCell ?_ (by first | exact Nat.le_refl _ | (simp; omega)) _ | refine Bw.drew ?_ | refine Bw.drewN ?_ _))⟩
  by_cases h5 : g ≤ 65536
  rotate_left
  · have HR := Aside0.mk (show rightB p t g = false from (rightB_of (by simp; omega)).symm)
    have d0 : decide (1 ≤ p) = true := by simp; omega
    have d1 : decide (p ≤ 64) = true := by simp; omega
    have d2 : decide (p ≤ t) = true := by simp; omega
    have d3 : decide (t ≤ 256) = true := by simp; omega
    have d4 : decide (1 ≤ g) = true := by simp; omega
    have d5 : decide (g ≤ 65536) = false := by simp; omega
    clear h0 h1 h2 h3 h4 h5
    go_enter Try.func60, Try.ntmps60
    go_wp2_with fail
    go_ret
    exact ⟨ret_bool HR.out.symm, (by repeat (first | (with_reducible first | exact HB.out) | refine Bw.alloc ?_ _ | refine Bw.setCell ?_ (by first | exact Nat.le_refl _ | (simp; omega)) _ | refine Bw.drew ?_ | refine Bw.drewN ?_ _))⟩
  have HR := Aside0.mk (show rightB p t g = true from (rightB_of (by simp; omega)).symm)
  have d0 : decide (1 ≤ p) = true := by simp; omega
  have d1 : decide (p ≤ 64) = true := by simp; omega
  have d2 : decide (p ≤ t) = true := by simp; omega
  have d3 : decide (t ≤ 256) = true := by simp; omega
  have d4 : decide (1 ≤ g) = true := by simp; omega
  have d5 : decide (g ≤ 65536) = true := by simp; omega
  clear h0 h1 h2 h3 h4 h5
  go_enter Try.func60, Try.ntmps60
  go_wp2_with fail
  go_ret
  exact ⟨ret_bool HR.out.symm, (by repeat (first | (with_reducible first | exact HB.out) | refine Bw.alloc ?_ _ | refine Bw.setCell ?_ (by first | exact Nat.le_refl _ | (simp; omega)) _ | refine Bw.drew ?_ | refine Bw.drewN ?_ _))⟩
theorem refRight5_calls (p t g : Int) (w : World) : Calls Try.prog 30 #[.agg #[.int .i64 p, .int .i64 t, .int .i64 g]] w fun e w' => e = .returned (.bool (rightB p t g)) ∧ Bw w w' := by
  have HB := Aside0.mk (Bw.refl w)
  by_cases h0 : 1 ≤ p
  rotate_left
  · have HR := Aside0.mk (show rightB p t g = false from (rightB_of (by simp; omega)).symm)
    have d0 : decide (p < 1) = true := by simp; omega
    clear h0
    go_enter Try.func30, Try.ntmps30
    go_wp2_with fail
    go_ret
    exact ⟨ret_bool HR.out.symm, (by repeat (first | (with_reducible first | exact HB.out) | refine Bw.alloc ?_ _ | refine Bw.setCell ?_ (by first | exact Nat.le_refl _ | (simp; omega)) _ | refine Bw.drew ?_ | refine Bw.drewN ?_ _))⟩
  by_cases h1 : p ≤ 64
  rotate_left
  · have HR := Aside0.mk (show rightB p t g = false from (rightB_of (by simp; omega)).symm)
    have d0 : decide (p < 1) = false := by simp; omega
    have d1 : decide (64 < p) = true := by simp; omega
    clear h0 h1
    go_enter Try.func30, Try.ntmps30
    go_wp2_with fail
    go_ret
    exact ⟨ret_bool HR.out.symm, (by repeat (first | (with_reducible first | exact HB.out) | refine Bw.alloc ?_ _ | refine Bw.setCell ?_ (by first | exact Nat.le_refl _ | (simp; omega)) _ | refine Bw.drew ?_ | refine Bw.drewN ?_ _))⟩
  by_cases h2 : 1 ≤ t
  rotate_left
  · have HR := Aside0.mk (show rightB p t g = false from (rightB_of (by simp; omega)).symm)
    have d0 : decide (p < 1) = false := by simp; omega
    have d1 : decide (64 < p) = false := by simp; omega
    have d2 : decide (t < 1) = true := by simp; omega
    clear h0 h1 h2
    go_enter Try.func30, Try.ntmps30
    go_wp2_with fail
    go_ret
    exact ⟨ret_bool HR.out.symm, (by repeat (first | (with_reducible first | exact HB.out) | refine Bw.alloc ?_ _ | refine Bw.setCell ?_ (by first | exact Nat.le_refl _ | (simp; omega)) _ | refine Bw.drew ?_ | refine Bw.drewN ?_ _))⟩
  by_cases h3 : t ≤ 256
  rotate_left
  · have HR := Aside0.mk (show rightB p t g = false from (rightB_of (by simp; omega)).symm)
    have d0 : decide (p < 1) = false := by simp; omega
    have d1 : decide (64 < p) = false := by simp; omega
    have d2 : decide (t < 1) = false := by simp; omega
    have d3 : decide (256 < t) = true := by simp; omega
    clear h0 h1 h2 h3
    go_enter Try.func30, Try.ntmps30
    go_wp2_with fail
    go_ret
    exact ⟨ret_bool HR.out.symm, (by repeat (first | (with_reducible first | exact HB.out) | refine Bw.alloc ?_ _ | refine Bw.setCell ?_ (by first | exact Nat.le_refl _ | (simp; omega)) _ | refine Bw.drew ?_ | refine Bw.drewN ?_ _))⟩
  by_cases h4 : 1 ≤ g
  rotate_left
  · have HR := Aside0.mk (show rightB p t g = false from (rightB_of (by simp; omega)).symm)
    have d0 : decide (p < 1) = false := by simp; omega
    have d1 : decide (64 < p) = false := by simp; omega
    have d2 : decide (t < 1) = false := by simp; omega
    have d3 : decide (256 < t) = false := by simp; omega
    have d4 : decide (g < 1) = true := by simp; omega
    clear h0 h1 h2 h3 h4
    go_enter Try.func30, Try.ntmps30
    go_wp2_with fail
    go_ret
    exact ⟨ret_bool HR.out.symm, (by repeat (first | (with_reducible first | exact HB.out) | refine Bw.alloc ?_ _ | refine Bw.setCell ?_ (by first | exact Nat.le_refl _ | (simp; omega)) _ | refine Bw.drew ?_ | refine Bw.drewN ?_ _))⟩
  by_cases h5 : g ≤ 65536
  rotate_left
  · have HR := Aside0.mk (show rightB p t g = false from (rightB_of (by simp; omega)).symm)
    have d0 : decide (p < 1) = false := by simp; omega
    have d1 : decide (64 < p) = false := by simp; omega
    have d2 : decide (t < 1) = false := by simp; omega
    have d3 : decide (256 < t) = false := by simp; omega
    have d4 : decide (g < 1) = false := by simp; omega
    have d5 : decide (65536 < g) = true := by simp; omega
    clear h0 h1 h2 h3 h4 h5
    go_enter Try.func30, Try.ntmps30
    go_wp2_with fail
    go_ret
    exact ⟨ret_bool HR.out.symm, (by repeat (first | (with_reducible first | exact HB.out) | refine Bw.alloc ?_ _ | refine Bw.setCell ?_ (by first | exact Nat.le_refl _ | (simp; omega)) _ | refine Bw.drew ?_ | refine Bw.drewN ?_ _))⟩
  by_cases h6 : p ≤ t
  rotate_left
  · have HR := Aside0.mk (show rightB p t g = false from (rightB_of (by simp; omega)).symm)
    have d0 : decide (p < 1) = false := by simp; omega
    have d1 : decide (64 < p) = false := by simp; omega
    have d2 : decide (t < 1) = false := by simp; omega
    have d3 : decide (256 < t) = false := by simp; omega
    have d4 : decide (g < 1) = false := by simp; omega
    have d5 : decide (65536 < g) = false := by simp; omega
    have d6 : decide (p ≤ t) = false := by simp; omega
    clear h0 h1 h2 h3 h4 h5 h6
    go_enter Try.func30, Try.ntmps30
    go_wp2_with fail
    go_ret
    exact ⟨ret_bool HR.out.symm, (by repeat (first | (with_reducible first | exact HB.out) | refine Bw.alloc ?_ _ | refine Bw.setCell ?_ (by first | exact Nat.le_refl _ | (simp; omega)) _ | refine Bw.drew ?_ | refine Bw.drewN ?_ _))⟩
  have HR := Aside0.mk (show rightB p t g = true from (rightB_of (by simp; omega)).symm)
  have d0 : decide (p < 1) = false := by simp; omega
  have d1 : decide (64 < p) = false := by simp; omega
  have d2 : decide (t < 1) = false := by simp; omega
  have d3 : decide (256 < t) = false := by simp; omega
  have d4 : decide (g < 1) = false := by simp; omega
  have d5 : decide (65536 < g) = false := by simp; omega
  have d6 : decide (p ≤ t) = true := by simp; omega
  clear h0 h1 h2 h3 h4 h5 h6
  go_enter Try.func30, Try.ntmps30
  go_wp2_with fail
  go_ret
  exact ⟨ret_bool HR.out.symm, (by repeat (first | (with_reducible first | exact HB.out) | refine Bw.alloc ?_ _ | refine Bw.setCell ?_ (by first | exact Nat.le_refl _ | (simp; omega)) _ | refine Bw.drew ?_ | refine Bw.drewN ?_ _))⟩
def plainE (p : En) : En := if p.1 = 2 ∨ p.1 = 3 then (p.1, 0) else p
theorem plainE_wf {p : En} (h : wfN p) : wfN (plainE p) := by
  unfold plainE
  split
  · exact ⟨h.1, show (Lit.int .i64 0).wf = true by decide⟩
  · exact h
theorem plain_calls (p : En) (w : World) : Calls Try.prog 62 #[.agg #[.int .i64 p.1, .int .i64 p.2]] w fun e w' => e = .returned (.agg #[.int .i64 (plainE p).1, .int .i64 (plainE p).2]) ∧ Bw w w' := by
  have HB := Aside0.mk (Bw.refl w)
  obtain ⟨a, b⟩ := p
  by_cases h2 : a = 2
  · subst h2
    go_enter Try.func62, Try.ntmps62
    go_wp2_with fail
    exact bodyPost_ret (v := .agg #[.int .i64 2, .int .i64 0]) (by simp [results, Try.results62, go_sem]) rfl ⟨rfl, (by repeat (first | (with_reducible first | exact HB.out) | refine Bw.alloc ?_ _ | refine Bw.setCell ?_ (by first | exact Nat.le_refl _ | (simp; omega)) _ | refine Bw.drew ?_ | refine Bw.drewN ?_ _))⟩
  · by_cases h3 : a = 3
    · subst h3
      go_enter Try.func62, Try.ntmps62
      go_wp2_with fail
      exact bodyPost_ret (v := .agg #[.int .i64 3, .int .i64 0]) (by simp [results, Try.results62, go_sem]) rfl ⟨rfl, (by repeat (first | (with_reducible first | exact HB.out) | refine Bw.alloc ?_ _ | refine Bw.setCell ?_ (by first | exact Nat.le_refl _ | (simp; omega)) _ | refine Bw.drew ?_ | refine Bw.drewN ?_ _))⟩
    · have HP := Aside0.mk (show plainE (a, b) = (a, b) by unfold plainE; rw [if_neg (by simp only; omega)])
      have d1 : (a == 2) = false := by simpa using h2
      have d2 : (a == 3) = false := by simpa using h3
      clear h2 h3
      go_enter Try.func62, Try.ntmps62
      go_wp2_with fail
      refine bodyPost_ret (v := .agg #[.int .i64 a, .int .i64 b]) (by simp [results, Try.results62, go_sem]) rfl ⟨?_, (by repeat (first | (with_reducible first | exact HB.out) | refine Bw.alloc ?_ _ | refine Bw.setCell ?_ (by first | exact Nat.le_refl _ | (simp; omega)) _ | refine Bw.drew ?_ | refine Bw.drewN ?_ _))⟩
      rw [HP.out]
/-- All that are wanted, of so many threads. -/
def wantB (T : Nat) (p : En) : Bool := p == (2, 0) || p == (3, 0) || ((p.1 == 1 || p.1 == 4) && decide (0 ≤ p.2 ∧ p.2 < T))
theorem wantB_succ (T : Nat) (p : En) : wantB (T + 1) p = (wantB T p || p == (1, (T : Int)) || p == (4, (T : Int))) := by
  obtain ⟨a, b⟩ := p
  unfold wantB
  apply Bool.eq_iff_iff.2
  simp [Prod.ext_iff]
  omega
def Wanted (w : World) (T : Nat) (e : Ending) (w' : World) : Prop := ∃ b n D, e = .returned (.map (some b)) ∧ w.heap.size ≤ b ∧ n ≤ 2 * T + 2 ∧ isMp w' b n D ∧ Keeps D (wantB T) ∧ Bw w w'
theorem grown_bw {w0 w w1 : World} {b : Nat} (h : Bw w0 w) (hb : w0.heap.size ≤ b) (hg : w.grownBy w1 (some b)) : Bw w0 w1 :=
  ⟨hg.os.trans h.os, hg.tape.trans h.tape, hg.output.trans h.output, Nat.le_trans h.size hg.size, fun i hi => (hg.block i (Nat.lt_of_lt_of_le hi h.size) (fun e => by injection e with e; omega)).trans (h.block i hi)⟩
theorem wf_small (a : Int) (h : 0 ≤ a ∧ a < 100000) : (Lit.int .i64 a).wf = true := WalkArith.wf_i64 (by omega)
set_option maxHeartbeats 2000000 in
theorem wanted_calls (p g : Int) (T : Nat) (hT : T ≤ 256) (w : World) : Calls Try.prog 61 #[.agg #[.int .i64 p, .int .i64 T, .int .i64 g]] w (Wanted w T) := by
  have HB := Aside0.mk (Bw.refl w)
  have hmm := @run_makeMap Try.prog
  obtain ⟨W1, hW1⟩ : ∃ W1, W1 = w.alloc (.cells #[.int .i64 p, .int .i64 T, .int .i64 g] 49) := ⟨_, rfl⟩
  have HL := Aside0.mk (show Blk W1 w.heap.size #[.int .i64 p, .int .i64 T, .int .i64 g] 49 by rw [hW1]; exact Blk.new w _ _)
  have HW1 := Aside0.mk (show Bw w W1 by rw [hW1]; exact HB.out.alloc _)
  have hm0 : isMp (W1.alloc (.map #[] 0)) W1.heap.size 0 (.map []) := World.ownsMap_made _ _ _ _
  have k1 := kl_key (2, 0) ⟨by decide, by decide⟩
  have k2 := kl_key (3, 0) ⟨by decide, by decide⟩
  have pe := plainElem_int (H := Unit) (e := 3) (q := .i64) (a := 1) Try.underlying3 (by decide)
  obtain ⟨wA, rA, oA, gA⟩ := World.ownsMap.update hm0.drew lawN und_map (by decide) k1 pe
  obtain ⟨wAB, rAB, oAB, gAB⟩ := World.ownsMap.update oA lawN und_map (by decide) k2 pe
  obtain ⟨wB, rB, oB, gB⟩ := World.ownsMap.update hm0.drew lawN und_map (by decide) k2 pe
  obtain ⟨wBA, rBA, oBA, gBA⟩ := World.ownsMap.update oB lawN und_map (by decide) k1 pe
  have HB0 := ((Bw.refl W1).alloc (.map #[] 0)).drew
  have HK0 := Aside0.mk (((Keeps.empty.put isMap_empty (2, 0) ⟨by decide, by decide⟩ (.lit (.int .i64 1))).put (isMap_empty.put _ _) (3, 0) ⟨by decide, by decide⟩ (.lit (.int .i64 1))).congr (S' := wantB 0) (fun p _ => by obtain ⟨a, b⟩ := p; unfold wantB; apply Bool.eq_iff_iff.2; simp [Prod.ext_iff]; omega))
  have HK1 := Aside0.mk (((Keeps.empty.put isMap_empty (3, 0) ⟨by decide, by decide⟩ (.lit (.int .i64 1))).put (isMap_empty.put _ _) (2, 0) ⟨by decide, by decide⟩ (.lit (.int .i64 1))).congr (S' := wantB 0) (fun p _ => by obtain ⟨a, b⟩ := p; unfold wantB; apply Bool.eq_iff_iff.2; simp [Prod.ext_iff]; omega))
  have HA := Aside0.mk (And.intro oAB (grown_bw (grown_bw HB0 (Nat.le_refl _) gA) (Nat.le_refl _) gAB))
  have HBA := Aside0.mk (And.intro oBA (grown_bw (grown_bw HB0 (Nat.le_refl _) gB) (Nat.le_refl _) gBA))
  clear HB0 hm0 k1 k2 pe oA oAB oB oBA gA gAB gB gBA
  go_enter Try.func61, Try.ntmps61
  go_upto_region 1 with fail
  rw [← hW1]
  have HW1E := Aside0.mk hW1
  clear hW1
  go_cut [3] from 5 to 8 (fun v wx => ∃ b n D, v = .map (some b) ∧ Aside0 (W1.heap.size ≤ b ∧ n ≤ 2 ∧ isMp wx b n D ∧ Keeps D (wantB 0) ∧ Bw W1 wx))
  case first =>
    go_wp2_with fail
    go_region
    all_goals go_wp2_with fail
    all_goals go_meet
    all_goals (case rel =>
      first
        | exact ⟨_, _, _, rfl, ⟨Nat.le_refl _, Nat.le_refl _, HA.out.1, HK0.out, HA.out.2⟩⟩
        | exact ⟨_, _, _, rfl, ⟨Nat.le_refl _, Nat.le_refl _, HBA.out.1, HK1.out, HBA.out.2⟩⟩)
  case rest =>
    obtain ⟨b, n, D, rfl, HC⟩ := hcut
    have hL1 : wc.cell? ⟨w.heap.size, 1, none⟩ = some (.int .i64 T) := (HL.out.bw HC.out.2.2.2.2).cell 1 _ rfl
    clear rA rAB rB rBA HA HBA HK0 HK1 hmm
    go_wp2_with fail
    go_loopw [11] (fun iv wr => ∃ (k : Nat) (n : Nat) (D : DataW Unit), k ≤ T ∧ iv = .int .i64 k ∧ Aside0 (W1.heap.size ≤ b ∧ n ≤ 2 * k + 2 ∧ isMp wr b n D ∧ Keeps D (wantB k) ∧ Bw W1 wr)) (fun iv _ => T - (intOf iv).toNat)
    case atStart => exact ⟨0, n, D, by omega, rfl, ⟨HC.out.1, HC.out.2.1, HC.out.2.2.1, HC.out.2.2.2.1, HC.out.2.2.2.2⟩⟩
    case round =>
      clear HC
      obtain ⟨k, n, D, hk, rfl, HC⟩ := hrel
      by_cases hlt : k < T
      · obtain ⟨hbb, hn, hm, hkp, hbw⟩ := HC.out
        have wk1 : wfN (1, (k : Int)) := ⟨show (Lit.int .i64 1).wf = true by decide, wf_small _ (by omega)⟩
        have wk4 : wfN (4, (k : Int)) := ⟨show (Lit.int .i64 4).wf = true by decide, wf_small _ (by omega)⟩
        obtain ⟨c, st, w1, a1, a2, a3, a4⟩ := entry_go hm.drew (by unfold maxLen; omega) (1, (k : Int)) wk1
        obtain ⟨w2, a5, hm2, hg2⟩ := a4 (wrap64 (c + 1)) (wrap64_wf _)
        obtain ⟨c', st', w3, b1, b2, b3, b4⟩ := entry_go hm2.drew (by unfold maxLen; omega) (4, (k : Int)) wk4
        obtain ⟨w4, b5, hm4, hg4⟩ := b4 (wrap64 (c' + 1)) (wrap64_wf _)
        have HN := Aside0.mk (show W1.heap.size ≤ b ∧ n + 1 + 1 ≤ 2 * (k + 1) + 2 ∧ isMp w4 b (n + 1 + 1) ((D.put (kl (1, (k : Int))) (.lit (.int .i64 (wrap64 (c + 1))))).put (kl (4, (k : Int))) (.lit (.int .i64 (wrap64 (c' + 1))))) ∧ Keeps ((D.put (kl (1, (k : Int))) (.lit (.int .i64 (wrap64 (c + 1))))).put (kl (4, (k : Int))) (.lit (.int .i64 (wrap64 (c' + 1))))) (wantB (k + 1)) ∧ Bw W1 w4 from
          ⟨hbb, by omega, hm4, ((hkp.put hm.isMap _ wk1 _).put hm2.isMap _ wk4 _).congr (fun p _ => (wantB_succ k p).symm), grown_bw (grown_bw hbw.drew hbb hg2).drew hbb hg4⟩)
        clear a4 b4 hm2 hg2 hm4 hg4 hm hkp hbw hbb hn wk1 wk4
        go_wp2_with fail
        go_region
        all_goals go_wp2_with fail
        all_goals go_region
        all_goals go_wp2_with fail
        all_goals go_roundw
        all_goals first
          | (case rel => exact ⟨k + 1, n + 1 + 1, _, by omega, by go_num, HN⟩)
          | (case measure => simp [intOf]; omega)
      · obtain rfl : T = k := by omega
        go_wp2_with fail
        go_ret
        exact ⟨b, n, D, rfl, Nat.le_trans HW1.out.size HC.out.1, HC.out.2.1, HC.out.2.2.1, HC.out.2.2.2.1, HW1.out.trans HC.out.2.2.2.2⟩
end Go.Proofs.Ytkmfbafgbaapiaa.M
