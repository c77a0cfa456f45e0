/- Agenda: the law's does: an item that is put anew. Conditions: as in the text before. -/
import Derived.Test.YtoklhhcjcecbbaaGv
namespace Go.Proofs.Ytoklhhcjcecbbaa.M
open Go.RowKit Go.Maps Go.Proofs.YtoklhhcjcecbbaaW.PrintWords Go.Proofs.YtoklhhcjcecbbaaW.PrintLast Go.Proofs.YtoklhhcjcecbbaaW.PrintMore
set_option linter.unusedVariables false
set_option linter.unusedSimpArgs false
section
variable {w w1 : World} {base ab b mb : Nat} {v : Value} {L l l2 : List It} {D : DataW Unit} {A : Option Addr}
set_option maxHeartbeats 4000000 in
set_option maxRecDepth 100000 in
theorem does_put_new (h : AgL w base ab b mb v l) (hr : LR w A l) (c : Nat) (hl : l.length ≤ 1000) (hc : l.length ≤ c) (kind due key : Int) (hwd : (Lit.int .i64 due).wf = true) (hwk : (Lit.int .i64 key).wf = true) (q0 : (kind == 0) = true) (hk : hasK l key = false) :
    Calls Try.prog 15 #[.pointer (some ⟨ab, 0, none⟩), .slice A l.length c, .agg #[.int .i64 kind, .int .i64 due, .int .i64 key]] w (DoesP w base ab b mb v l) := by
  obtain ⟨w0, hw0⟩ : ∃ w0, w0 = w.alloc (.cells #[.int .i64 kind, .int .i64 due, .int .i64 key] 42) := ⟨_, rfl⟩
  have HB0 := Aside0.mk (show Bw w w0 by rw [hw0]; exact (Bw.refl w).alloc _)
  have HK0 := Aside0.mk (show Blk w0 w.heap.size #[.int .i64 kind, .int .i64 due, .int .i64 key] 42 by rw [hw0]; exact Blk.new w _ _)
  have HWD := Aside0.mk hwd
  have HWK := Aside0.mk hwk
  have OLD := Aside0.mk h.old
  have RA := Aside0.mk (fun W (hW : LR W A l) => refAt_calls A c l key W hW.rows (by omega))
  have H0 := Aside0.mk (h.bw HB0.out)
  have R0 := Aside0.mk (hr.bw HB0.out)
  
  have RAT := Aside0.mk (show atL l key = -1 by unfold atL; rw [hk]; rfl)
  rw [RAT.out] at RA
  clear h hr hwd hwk
  go_enter Try.func15, Try.ntmps15
  go_wp2_with fail
  rw [← hw0]
  clear hw0
  refine (RA.out _ R0.out).mono ?_
  rintro e w1 ⟨rfl, hb1⟩
  have HB1 := Aside0.mk (HB0.out.trans hb1)
  have HK1 := Aside0.mk (HK0.out.bw hb1)
  have H1 := Aside0.mk (H0.out.bw hb1)
  have R1 := Aside0.mk (R0.out.bw hb1)
  clear hb1
  have k0 := HK1.out.cell 0 (.int .i64 kind) rfl
  have k1 := HK1.out.cell 1 (.int .i64 due) rfl
  have k2 := HK1.out.cell 2 (.int .i64 key) rfl
  have HP := Aside0.mk (show ∀ W, AgL W base ab b mb v l → Calls Try.prog 10 #[.pointer (some ⟨ab, 0, none⟩), .agg #[.int .i64 due, .int .i64 key]] W fun e w' => e = .returned (.int .i64 0) ∧ ∃ v', AgL w' base ab b mb v' (putR l (due, key)) ∧ AgS b mb v v' W w' from fun W hW => hW.put_new (due, key) ⟨HWD.out, HWK.out⟩ (by omega) hk)
  have RP := Aside0.mk (show ∀ W, LR W A l → Calls Try.prog 11 #[.slice A l.length c, .agg #[.int .i64 due, .int .i64 key]] W fun e w' => ∃ u, e = .returned u ∧ w'.ownsRow 0 32 2 u (putR l (due, key)).length ((putR l (due, key)).flatMap encI) ∧ Bw W w' from fun W hW => (refPut_calls A c l (due, key) W hW.rows (by omega)).mono fun e w' ⟨u, h1, h2, h3⟩ => ⟨u, h1, own_weaken h2 (Nat.zero_le _), h3⟩)
  have hpl := Aside0.mk (Nat.le_of_eq (putR_len l (due, key)))
  generalize putR l (due, key) = T at RP HP hpl
  obtain ⟨s1, s2⟩ := And.intro k1 k2
  go_wp2_with fail
  have HRk := Aside0.mk (R1.out.bw (Bw.refl w1).drew)
  have HAk := Aside0.mk (H1.out.bw (Bw.refl w1).drew)
  have HBk := Aside0.mk (HK1.out.bw (Bw.refl w1).drew)
  have HSk := Aside0.mk ((AgS.refl b mb v w).bw HB1.out.drew)
  clear k0 k1 k2 hk
  go_region_held3 (fun W => W.cell? ⟨w.heap.size, 1, none⟩ = some (.int .i64 due) ∧ W.cell? ⟨w.heap.size, 2, none⟩ = some (.int .i64 key)) (exact ⟨s1, s2⟩) ((first | (go_at_call 11; refine (RP.out _ HRk.out).mono ?_; rintro e w3 ⟨u, rfl, hu, hb3⟩; have HNk := Aside0.mk hu; have HRk := Aside0.mk (HRk.out.bw hb3); have HAk := Aside0.mk (HAk.out.bw hb3); have HSk := Aside0.mk (HSk.out.bw hb3); have HBk := Aside0.mk (HBk.out.bw hb3); have s1 := HBk.out.cell 1 (.int .i64 due) rfl; have s2 := HBk.out.cell 2 (.int .i64 key) rfl; clear hu hb3) | (go_at_call 10; refine (HP.out _ HAk.out).mono ?_; rintro e w3 ⟨rfl, v2, h2, ss⟩; have cc := ss.chg; have HRk := Aside0.mk (HRk.out.keep HAk.out cc); (try (have HNk := Aside0.mk (HAk.out.keepR HNk.out cc))); have HBk := Aside0.mk (HBk.out.of_block (cc.block _ HBk.out.lt (fun e => absurd (OLD.out _ e) (Nat.lt_irrefl _)))); have s1 := HBk.out.cell 1 (.int .i64 due) rfl; have s2 := HBk.out.cell 2 (.int .i64 key) rfl; have HSk := Aside0.mk (HSk.out.trans ss); have HAk := Aside0.mk h2; clear h2 cc ss)))
  all_goals go_wp2_with fail
  all_goals go_ret2
  all_goals
    obtain ⟨A', c', rfl, hcc, hLR⟩ := LR.own HNk.out
    refine ⟨T, A', c', rfl, hpl.out, hcc, hLR, _, HAk.out, HSk.out⟩
end
end Go.Proofs.Ytoklhhcjcecbbaa.M
