/- The law ModelNone. No condition. -/
import Derived.Test.YtoklhhcjcecbbaaHr
import Derived.Test.YtoklhhcjcecbbaaMr
namespace Go.Proofs.Ytoklhhcjcecbbaa.M
open Go.RowKit Go.Maps Go.Proofs.YtoklhhcjcecbbaaW.PrintWords Go.Proofs.YtoklhhcjcecbbaaW.PrintLast Go.Proofs.YtoklhhcjcecbbaaW.PrintMore
set_option linter.unusedVariables false
set_option linter.unusedSimpArgs false
theorem rows0_cnt (m : Nat) (hm : 1 ≤ m) : cntR (rows0 m) 1 = 1 ∧ cntR (rows0 m) 0 = m - 1 := by
  obtain ⟨n, rfl⟩ : ∃ n, m = n + 1 := ⟨m - 1, by omega⟩
  have e : rows0 (n + 1) = ⟨1, 0, 0, 0, 0⟩ :: List.replicate n ⟨0, 0, 0, 0, 0⟩ := by unfold rows0; rw [List.replicate_succ]; rfl
  unfold cntR
  rw [e]
  constructor
  · rw [List.filter_cons, if_pos (by decide), List.filter_replicate, if_neg (by decide)]; rfl
  · rw [List.filter_cons, if_neg (by decide), List.filter_replicate, if_pos (by decide)]; simp
theorem cf_cells {W : World} {b : Nat} {c0 c1 c2 : Int} (h : Blk W b #[.int .i64 c0, .int .i64 c1, .int .i64 c2] 53) : W.cell? ⟨b, 0, none⟩ = some (.int .i64 c0) ∧ W.cell? ⟨b, 1, none⟩ = some (.int .i64 c1) ∧ W.cell? ⟨b, 2, none⟩ = some (.int .i64 c2) ∧ b < W.heap.size :=
  ⟨h.cell 0 _ rfl, h.cell 1 _ rfl, h.cell 2 _ rfl, h.lt⟩
set_option maxHeartbeats 4000000 in
set_option maxRecDepth 100000 in
theorem ModelNone_right (p t : Int) (m : Nat) (c0 c1 c2 c3 c4 : Int) (w : World) (hp : 1 ≤ p ∧ p ≤ 64) (hm : 1 ≤ m ∧ m ≤ 300) : Calls Try.prog 6 #[.agg #[.int .i64 p, .int .i64 t, .int .i64 m], .agg (evC c0 c1 c2 c3 c4)] w fun e w' => e = .returned (.bool true) ∧ Bw w w' := by
  obtain ⟨w0, hw0⟩ : ∃ w0, w0 = (w.alloc (.cells #[.int .i64 p, .int .i64 t, .int .i64 m] 53)).alloc (.cells (evC c0 c1 c2 c3 c4) 55) := ⟨_, rfl⟩
  have HB := Aside0.mk (show Bw w w0 by rw [hw0]; exact ((Bw.refl w).alloc _).alloc _)
  have KA := Aside0.mk (show Blk w0 w.heap.size #[.int .i64 p, .int .i64 t, .int .i64 m] 53 by rw [hw0]; exact (Blk.new w _ _).alloc _)
  have KB := Aside0.mk (show Blk w0 (w.heap.size + 1) (evC c0 c1 c2 c3 c4) 55 by rw [hw0]; simpa using Blk.new (w.alloc (.cells #[.int .i64 p, .int .i64 t, .int .i64 m] 53)) (evC c0 c1 c2 c3 c4) 55)
  obtain ⟨p1, p2⟩ := hp
  obtain ⟨m1, m2⟩ := hm
  have RD := Aside0.mk (fun W => Read_calls none 0 [] W Rows.nil (by simp) (by simp))
  have NW := Aside0.mk (fun W cbase cb cv us (hc : IsCode W cbase cb cv us (progsOf [])) => mNew_calls hc p t m ⟨p1, p2⟩ ⟨m1, by omega⟩)
  have HA := Aside0.mk (fun W => mawake_calls W)
  have d1 : decide ((300 : Int) < (m : Int)) = false := decide_eq_false (by omega)
  have d1' : decide (300 < m) = false := decide_eq_false (by omega)
  have e1 : decide ((1 : Int) ≤ p) = true := decide_eq_true p1
  have e2 : decide (p ≤ 64) = true := decide_eq_true p2
  have e3 : decide ((1 : Int) ≤ (m : Int)) = true := decide_eq_true (by omega)
  have e3' : decide (1 ≤ m) = true := decide_eq_true m1
  have e4 : decide ((m : Int) ≤ 65536) = true := decide_eq_true (by omega)
  have e4' : decide (m ≤ 65536) = true := decide_eq_true (by omega)
  have hcnt := rows0_cnt m m1
  obtain ⟨m3, hm3⟩ : ∃ m3, m3 = m - 1 := ⟨_, rfl⟩
  have hwm : wrap64 ((m : Int) - 1) = (m3 : Int) := by simp [wrap64]; omega
  have HQM := Aside0.mk (show (((m3 : Nat) : Int) == (m : Int) - 1) = true by rw [beq_iff_eq]; omega)
  rw [← hm3] at hcnt
  have HCN := Aside0.mk hcnt
  obtain ⟨a0, a1, a2, al⟩ := cf_cells KA.out
  clear hcnt hm3
  go_enter Try.func6, Try.ntmps6
  go_wp2_with fail
  rw [← hw0]
  clear hw0
  go_wp2_with fail
  go_region_held3 (fun W => W.cell? ⟨w.heap.size, 0, none⟩ = some (.int .i64 p) ∧ W.cell? ⟨w.heap.size, 1, none⟩ = some (.int .i64 t) ∧ W.cell? ⟨w.heap.size, 2, none⟩ = some (.int .i64 m)) (exact ⟨a0, a1, a2⟩) ((first | (go_at_call 25; refine (RD.out _).mono ?_; rintro e w3 ⟨cb, cv, us, rfl, hc, hb3⟩; have HCk := Aside0.mk hc; have HB3 := Aside0.mk (HB.out.drew.trans hb3); have HQ3 := Aside0.mk ((Bw.refl w0).drew.trans hb3); have a0 := HQ3.out.kept (a := ⟨w.heap.size, 0, none⟩) a0; have a1 := HQ3.out.kept (a := ⟨w.heap.size, 1, none⟩) a1; have a2 := HQ3.out.kept (a := ⟨w.heap.size, 2, none⟩) a2; clear hc hb3) | (go_at_call 24; refine (NW.out _ _ _ _ _ HCk.out).mono ?_; rintro e w4 ⟨s, rfl, hsn, hsp, h4, hb4⟩; have HM := Aside0.mk h4; have HB4 := Aside0.mk (HB3.out.trans hb4); have HQ4 := Aside0.mk (HQ3.out.trans hb4); have a0 := hb4.kept (a := ⟨w.heap.size, 0, none⟩) a0; have a1 := hb4.kept (a := ⟨w.heap.size, 1, none⟩) a1; have a2 := hb4.kept (a := ⟨w.heap.size, 2, none⟩) a2; clear h4 hb4)))
  have KA := Aside0.mk (KA.out.bw HQ4.out)
  have KB := Aside0.mk (KB.out.bw HQ4.out)
  clear a0 a1 a2 al
  obtain ⟨a0, a1, a2, al⟩ := cf_cells KA.out
  obtain ⟨f0, f1, f2, f3, f4, fl⟩ := ev_cells KB.out
  go_wp2_with fail
  refine (mNew_nil p t m _).mono ?_
  rintro e w6 ⟨rfl, hb6⟩
  have HB6 := Aside0.mk (HB4.out.trans hb6)
  have KA := Aside0.mk (KA.out.bw hb6)
  have KB := Aside0.mk (KB.out.bw hb6)
  have HM := Aside0.mk (HM.out.bw hb6)
  clear hb6 a0 a1 a2 al f0 f1 f2 f3 f4 fl
  obtain ⟨a0, a1, a2, al⟩ := cf_cells KA.out
  obtain ⟨f0, f1, f2, f3, f4, fl⟩ := ev_cells KB.out
  go_wp2_with fail
  refine (all_nil _).mono ?_
  rintro e w7 ⟨rfl, hb7⟩
  have HB7 := Aside0.mk (HB6.out.trans hb7)
  have KA := Aside0.mk (KA.out.bw hb7)
  have KB := Aside0.mk (KB.out.bw hb7)
  have HM := Aside0.mk (HM.out.bw hb7)
  clear hb7 a0 a1 a2 al f0 f1 f2 f3 f4 fl
  obtain ⟨a0, a1, a2, al⟩ := cf_cells KA.out
  obtain ⟨f0, f1, f2, f3, f4, fl⟩ := ev_cells KB.out
  go_wp2_with fail
  refine (may_nil c0 c1 c2 c3 c4 _).mono ?_
  rintro e w8 ⟨rfl, hb8⟩
  have HB8 := Aside0.mk (HB7.out.trans hb8)
  have KA := Aside0.mk (KA.out.bw hb8)
  have KB := Aside0.mk (KB.out.bw hb8)
  have HM := Aside0.mk (HM.out.bw hb8)
  clear hb8 a0 a1 a2 al f0 f1 f2 f3 f4 fl
  obtain ⟨a0, a1, a2, al⟩ := cf_cells KA.out
  obtain ⟨f0, f1, f2, f3, f4, fl⟩ := ev_cells KB.out
  go_wp2_with fail
  refine (do_nil c0 c1 c2 c3 c4 _).mono ?_
  rintro e w9 ⟨rfl, hb9⟩
  have HB9 := Aside0.mk (HB8.out.trans hb9)
  have KA := Aside0.mk (KA.out.bw hb9)
  have KB := Aside0.mk (KB.out.bw hb9)
  have HM := Aside0.mk (HM.out.bw hb9)
  clear hb9 a0 a1 a2 al f0 f1 f2 f3 f4 fl
  obtain ⟨a0, a1, a2, al⟩ := cf_cells KA.out
  obtain ⟨f0, f1, f2, f3, f4, fl⟩ := ev_cells KB.out
  go_wp2_with fail
  refine (what_nil 0 _).mono ?_
  rintro e w10 ⟨rfl, hb10⟩
  have HB10 := Aside0.mk (HB9.out.trans hb10)
  have KA := Aside0.mk (KA.out.bw hb10)
  have KB := Aside0.mk (KB.out.bw hb10)
  have HM := Aside0.mk (HM.out.bw hb10)
  clear hb10 a0 a1 a2 al f0 f1 f2 f3 f4 fl
  obtain ⟨a0, a1, a2, al⟩ := cf_cells KA.out
  obtain ⟨f0, f1, f2, f3, f4, fl⟩ := ev_cells KB.out
  go_wp2_with fail
  refine (program_nil 0 _).mono ?_
  rintro e w11 ⟨rfl, hb11⟩
  have HB11 := Aside0.mk (HB10.out.trans hb11)
  have KA := Aside0.mk (KA.out.bw hb11)
  have KB := Aside0.mk (KB.out.bw hb11)
  have HM := Aside0.mk (HM.out.bw hb11)
  clear hb11 a0 a1 a2 al f0 f1 f2 f3 f4 fl
  obtain ⟨a0, a1, a2, al⟩ := cf_cells KA.out
  obtain ⟨f0, f1, f2, f3, f4, fl⟩ := ev_cells KB.out
  go_wp2_with fail
  refine (Next_nil 0 _).mono ?_
  rintro e w12 ⟨rfl, hb12⟩
  dsimp only [insV]
  have HB12 := Aside0.mk (HB11.out.trans hb12)
  have KA := Aside0.mk (KA.out.bw hb12)
  have KB := Aside0.mk (KB.out.bw hb12)
  have HM := Aside0.mk (HM.out.bw hb12)
  clear hb12 a0 a1 a2 al f0 f1 f2 f3 f4 fl
  obtain ⟨a0, a1, a2, al⟩ := cf_cells KA.out
  obtain ⟨f0, f1, f2, f3, f4, fl⟩ := ev_cells KB.out
  go_wp2_with fail
  refine (count_nil 0 _).mono ?_
  rintro e w13 ⟨rfl, hb13⟩
  have HB13 := Aside0.mk (HB12.out.trans hb13)
  have KA := Aside0.mk (KA.out.bw hb13)
  have KB := Aside0.mk (KB.out.bw hb13)
  have HM := Aside0.mk (HM.out.bw hb13)
  clear hb13 a0 a1 a2 al f0 f1 f2 f3 f4 fl
  obtain ⟨a0, a1, a2, al⟩ := cf_cells KA.out
  obtain ⟨f0, f1, f2, f3, f4, fl⟩ := ev_cells KB.out
  have CN1 := Aside0.mk (show ∀ W, IsMod W w3.heap.size s (rows0 m) 0 (.map []) (.map []) → Calls Try.prog 32 #[.pointer (some ⟨s.mb, 0, none⟩), .int .i64 1] W (fun e w' => e = .returned (.int .i64 1) ∧ Bw W w') from fun W hW => by
    have := count_calls hW 1
    rw [HCN.out.1] at this
    exact this)
  have CN0 := Aside0.mk (show ∀ W, IsMod W w3.heap.size s (rows0 m) 0 (.map []) (.map []) → Calls Try.prog 32 #[.pointer (some ⟨s.mb, 0, none⟩), .int .i64 0] W (fun e w' => e = .returned (.int .i64 m3) ∧ Bw W w') from fun W hW => by
    have := count_calls hW 0
    rw [HCN.out.2] at this
    exact this)
  have A2 : ∀ p : BwW w13, p.W.cell? ⟨w.heap.size, 2, none⟩ = some (.int .i64 m) := fun p => p.cell a2
  go_wp2_with fail
  refine wp_region_bw (by kernel_rfl) (by kernel_rfl) ?_
  repeat (first | go_big_quiet_skip | (go_big_quiet_want; go_big_quiet_op; first | go_big_quiet_on | go_big_quiet_call (first | (go_at_call 23; exact qcall (HA.out _)) | (go_at_call 32; first | (with_reducible exact qcall (CN1.out _ (HM.out.bw (BwW.h _)))) | (with_reducible exact qcall (CN0.out _ (HM.out.bw (BwW.h _))))))))
  refine wpQuiet_nil ?_
  rintro w14 ⟨⟨_, hb14⟩, rfl⟩
  clear A2
  have HB14 := Aside0.mk (HB13.out.trans hb14)
  clear hb14
  go_wp2_with fail
  go_ret
  exact ⟨ret_bool HQM.out, HB14.out⟩
set_option maxHeartbeats 8000000 in
set_option maxRecDepth 100000 in
theorem ModelNone_not (p t m c0 c1 c2 c3 c4 : Int) (w : World) (g : decide ((300 : Int) < m) = false ∨ (decide ((300 : Int) < m) = true ∧ decide (m ≤ 65536) = false)) (q : decide ((1 : Int) ≤ p) = false ∨ (decide ((1 : Int) ≤ p) = true ∧ decide (p ≤ 64) = false) ∨ (decide ((1 : Int) ≤ p) = true ∧ decide (p ≤ 64) = true ∧ decide ((1 : Int) ≤ m) = false) ∨ (decide ((1 : Int) ≤ p) = true ∧ decide (p ≤ 64) = true ∧ decide ((1 : Int) ≤ m) = true ∧ decide (m ≤ 65536) = false)) : Calls Try.prog 6 #[.agg #[.int .i64 p, .int .i64 t, .int .i64 m], .agg (evC c0 c1 c2 c3 c4)] w fun e w' => e = .returned (.bool true) ∧ Bw w w' := by
  obtain ⟨w0, hw0⟩ : ∃ w0, w0 = (w.alloc (.cells #[.int .i64 p, .int .i64 t, .int .i64 m] 53)).alloc (.cells (evC c0 c1 c2 c3 c4) 55) := ⟨_, rfl⟩
  have HB := Aside0.mk (show Bw w w0 by rw [hw0]; exact ((Bw.refl w).alloc _).alloc _)
  have KA := Aside0.mk (show Blk w0 w.heap.size #[.int .i64 p, .int .i64 t, .int .i64 m] 53 by rw [hw0]; exact (Blk.new w _ _).alloc _)
  have KB := Aside0.mk (show Blk w0 (w.heap.size + 1) (evC c0 c1 c2 c3 c4) 55 by rw [hw0]; simpa using Blk.new (w.alloc (.cells #[.int .i64 p, .int .i64 t, .int .i64 m] 53)) (evC c0 c1 c2 c3 c4) 55)
  have hnot : ¬ (1 ≤ p ∧ p ≤ 64 ∧ 1 ≤ m ∧ m ≤ 65536) := by
    rintro ⟨x1, x2, x3, x4⟩
    rcases q with h | ⟨_, h⟩ | ⟨_, _, h⟩ | ⟨_, _, _, h⟩ <;> have := of_decide_eq_false h <;> omega
  have RD := Aside0.mk (fun W => Read_calls none 0 [] W Rows.nil (by simp) (by simp))
  have NW := Aside0.mk (fun W cb => mNew_out p t m cb W hnot)
  have HA := Aside0.mk (fun W => mawake_calls W)
  clear hnot
  obtain ⟨a0, a1, a2, al⟩ := cf_cells KA.out
  rcases g with g1 | ⟨g1, g2⟩ <;> rcases q with q1 | ⟨q1, q2⟩ | ⟨q1, q2, q3⟩ | ⟨q1, q2, q3, q4⟩
  all_goals
    go_enter Try.func6, Try.ntmps6
    go_wp2_with fail
    rw [← hw0]
    clear hw0
    go_wp2_with fail
    go_region_held3 (fun W => W.cell? ⟨w.heap.size, 0, none⟩ = some (.int .i64 p) ∧ W.cell? ⟨w.heap.size, 1, none⟩ = some (.int .i64 t) ∧ W.cell? ⟨w.heap.size, 2, none⟩ = some (.int .i64 m)) (exact ⟨a0, a1, a2⟩) ((first | (go_at_call 25; refine (RD.out _).mono ?_; rintro e w3 ⟨cb, cv, us, rfl, hc, hb3⟩; have HCk := Aside0.mk hc; have HB3 := Aside0.mk (HB.out.drew.trans hb3); have HQ3 := Aside0.mk ((Bw.refl w0).drew.trans hb3); have a0 := HQ3.out.kept (a := ⟨w.heap.size, 0, none⟩) a0; have a1 := HQ3.out.kept (a := ⟨w.heap.size, 1, none⟩) a1; have a2 := HQ3.out.kept (a := ⟨w.heap.size, 2, none⟩) a2; clear hc hb3) | (go_at_call 24; refine (NW.out _ _).mono ?_; rintro e w4 ⟨rfl, hb4⟩; have HB4 := Aside0.mk (HB3.out.trans hb4); have HQ4 := Aside0.mk (HQ3.out.trans hb4); have a0 := hb4.kept (a := ⟨w.heap.size, 0, none⟩) a0; have a1 := hb4.kept (a := ⟨w.heap.size, 1, none⟩) a1; have a2 := hb4.kept (a := ⟨w.heap.size, 2, none⟩) a2; clear hb4)))
    have KA := Aside0.mk (KA.out.bw HQ4.out)
    have KB := Aside0.mk (KB.out.bw HQ4.out)
    clear a0 a1 a2 al
    obtain ⟨a0, a1, a2, al⟩ := cf_cells KA.out
    obtain ⟨f0, f1, f2, f3, f4, fl⟩ := ev_cells KB.out
    go_wp2_with fail
    refine (mNew_nil p t m _).mono ?_
    rintro e w6 ⟨rfl, hb6⟩
    have HB6 := Aside0.mk (HB4.out.trans hb6)
    have KA := Aside0.mk (KA.out.bw hb6)
    have KB := Aside0.mk (KB.out.bw hb6)
    clear hb6 a0 a1 a2 al f0 f1 f2 f3 f4 fl
    obtain ⟨a0, a1, a2, al⟩ := cf_cells KA.out
    obtain ⟨f0, f1, f2, f3, f4, fl⟩ := ev_cells KB.out
    go_wp2_with fail
    refine (all_nil _).mono ?_
    rintro e w7 ⟨rfl, hb7⟩
    have HB7 := Aside0.mk (HB6.out.trans hb7)
    have KA := Aside0.mk (KA.out.bw hb7)
    have KB := Aside0.mk (KB.out.bw hb7)
    clear hb7 a0 a1 a2 al f0 f1 f2 f3 f4 fl
    obtain ⟨a0, a1, a2, al⟩ := cf_cells KA.out
    obtain ⟨f0, f1, f2, f3, f4, fl⟩ := ev_cells KB.out
    go_wp2_with fail
    refine (may_nil c0 c1 c2 c3 c4 _).mono ?_
    rintro e w8 ⟨rfl, hb8⟩
    have HB8 := Aside0.mk (HB7.out.trans hb8)
    have KA := Aside0.mk (KA.out.bw hb8)
    have KB := Aside0.mk (KB.out.bw hb8)
    clear hb8 a0 a1 a2 al f0 f1 f2 f3 f4 fl
    obtain ⟨a0, a1, a2, al⟩ := cf_cells KA.out
    obtain ⟨f0, f1, f2, f3, f4, fl⟩ := ev_cells KB.out
    go_wp2_with fail
    refine (do_nil c0 c1 c2 c3 c4 _).mono ?_
    rintro e w9 ⟨rfl, hb9⟩
    have HB9 := Aside0.mk (HB8.out.trans hb9)
    have KA := Aside0.mk (KA.out.bw hb9)
    have KB := Aside0.mk (KB.out.bw hb9)
    clear hb9 a0 a1 a2 al f0 f1 f2 f3 f4 fl
    obtain ⟨a0, a1, a2, al⟩ := cf_cells KA.out
    obtain ⟨f0, f1, f2, f3, f4, fl⟩ := ev_cells KB.out
    go_wp2_with fail
    refine (what_nil 0 _).mono ?_
    rintro e w10 ⟨rfl, hb10⟩
    have HB10 := Aside0.mk (HB9.out.trans hb10)
    have KA := Aside0.mk (KA.out.bw hb10)
    have KB := Aside0.mk (KB.out.bw hb10)
    clear hb10 a0 a1 a2 al f0 f1 f2 f3 f4 fl
    obtain ⟨a0, a1, a2, al⟩ := cf_cells KA.out
    obtain ⟨f0, f1, f2, f3, f4, fl⟩ := ev_cells KB.out
    go_wp2_with fail
    refine (program_nil 0 _).mono ?_
    rintro e w11 ⟨rfl, hb11⟩
    have HB11 := Aside0.mk (HB10.out.trans hb11)
    have KA := Aside0.mk (KA.out.bw hb11)
    have KB := Aside0.mk (KB.out.bw hb11)
    clear hb11 a0 a1 a2 al f0 f1 f2 f3 f4 fl
    obtain ⟨a0, a1, a2, al⟩ := cf_cells KA.out
    obtain ⟨f0, f1, f2, f3, f4, fl⟩ := ev_cells KB.out
    go_wp2_with fail
    refine (Next_nil 0 _).mono ?_
    rintro e w12 ⟨rfl, hb12⟩
    dsimp only [insV]
    have HB12 := Aside0.mk (HB11.out.trans hb12)
    have KA := Aside0.mk (KA.out.bw hb12)
    have KB := Aside0.mk (KB.out.bw hb12)
    clear hb12 a0 a1 a2 al f0 f1 f2 f3 f4 fl
    obtain ⟨a0, a1, a2, al⟩ := cf_cells KA.out
    obtain ⟨f0, f1, f2, f3, f4, fl⟩ := ev_cells KB.out
    go_wp2_with fail
    refine (count_nil 0 _).mono ?_
    rintro e w13 ⟨rfl, hb13⟩
    have HB13 := Aside0.mk (HB12.out.trans hb13)
    have KA := Aside0.mk (KA.out.bw hb13)
    have KB := Aside0.mk (KB.out.bw hb13)
    clear hb13 a0 a1 a2 al f0 f1 f2 f3 f4 fl
    obtain ⟨a0, a1, a2, al⟩ := cf_cells KA.out
    obtain ⟨f0, f1, f2, f3, f4, fl⟩ := ev_cells KB.out
    go_wp2_with fail
    refine (HA.out _).mono ?_
    rintro e w14 ⟨rfl, hb14⟩
    have HB14 := Aside0.mk (HB13.out.trans hb14)
    clear hb14
    go_wp2_with fail
    go_ret
    exact ⟨rfl, HB14.out⟩
set_option maxRecDepth 100000 in
theorem ModelNone_many (p t m c0 c1 c2 c3 c4 : Int) (w : World) (g1 : decide ((300 : Int) < m) = true) (g2 : decide (m ≤ 65536) = true) : Calls Try.prog 6 #[.agg #[.int .i64 p, .int .i64 t, .int .i64 m], .agg (evC c0 c1 c2 c3 c4)] w fun e w' => e = .returned (.bool true) ∧ Bw w w' := by
  have HB := Aside0.mk (((Bw.refl w).alloc (.cells #[.int .i64 p, .int .i64 t, .int .i64 m] 53)).alloc (.cells (evC c0 c1 c2 c3 c4) 55))
  go_enter Try.func6, Try.ntmps6
  go_wp2_with fail
  refine (mawake_calls _).mono ?_
  rintro e w1 ⟨rfl, hb1⟩
  go_wp2_with fail
  go_ret
  exact ⟨rfl, HB.out.trans hb1⟩
theorem ModelNone_walk (w : World) (cs : List Value) (f : Fits [.int .i64, .int .i64, .int .i64] cs) (cs2 : List Value) (f2 : Fits [.int .i64, .int .i64, .int .i64, .int .i64, .int .i64] cs2) :
    Calls Try.prog 6 #[.agg cs.toArray, .agg cs2.toArray] w fun e w' => e = .returned (.bool true) ∧ Bw w w' := by
  obtain ⟨p, _, rfl, _, h1⟩ := f.int
  obtain ⟨t, _, rfl, _, h2⟩ := h1.int
  obtain ⟨m, _, rfl, _, h3⟩ := h2.int
  obtain rfl := h3.nil
  obtain ⟨c0, _, rfl, _, h1⟩ := f2.int
  obtain ⟨c1, _, rfl, _, h2⟩ := h1.int
  obtain ⟨c2, _, rfl, _, h3⟩ := h2.int
  obtain ⟨c3, _, rfl, _, h4⟩ := h3.int
  obtain ⟨c4, _, rfl, _, h5⟩ := h4.int
  obtain rfl := h5.nil
  by_cases k1 : (300 : Int) < m ∧ m ≤ 65536
  · exact ModelNone_many p t m c0 c1 c2 c3 c4 w (decide_eq_true k1.1) (decide_eq_true k1.2)
  · by_cases k2 : 1 ≤ p ∧ p ≤ 64 ∧ 1 ≤ m ∧ m ≤ 65536
    · obtain ⟨n, rfl⟩ := Int.eq_ofNat_of_zero_le (show 0 ≤ m by omega)
      exact ModelNone_right p t n c0 c1 c2 c3 c4 w ⟨k2.1, k2.2.1⟩ (by omega)
    · refine ModelNone_not p t m c0 c1 c2 c3 c4 w ?_ ?_
      · by_cases h : (300 : Int) < m
        · exact .inr ⟨decide_eq_true h, decide_eq_false (by omega)⟩
        · exact .inl (decide_eq_false h)
      · by_cases x1 : 1 ≤ p
        · by_cases x2 : p ≤ 64
          · by_cases x3 : 1 ≤ m
            · exact .inr (.inr (.inr ⟨decide_eq_true x1, decide_eq_true x2, decide_eq_true x3, decide_eq_false (by omega)⟩))
            · exact .inr (.inr (.inl ⟨decide_eq_true x1, decide_eq_true x2, decide_eq_false x3⟩))
          · exact .inr (.inl ⟨decide_eq_true x1, decide_eq_false x2⟩)
        · exact .inl (decide_eq_false x1)
end Go.Proofs.Ytoklhhcjcecbbaa.M
