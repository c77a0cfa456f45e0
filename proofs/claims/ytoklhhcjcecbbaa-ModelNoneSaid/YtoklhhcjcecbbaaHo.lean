/- Package model: free, runs, May, of an event that may be. Conditions: as the statements say. -/
import Derived.Test.YtoklhhcjcecbbaaHn
namespace Go.Proofs.Ytoklhhcjcecbbaa.M
open Go.RowKit Go.Maps Go.Proofs.YtoklhhcjcecbbaaW.PrintWords Go.Proofs.YtoklhhcjcecbbaaW.PrintLast Go.Proofs.YtoklhhcjcecbbaaW.PrintMore
set_option linter.unusedVariables false
set_option linter.unusedSimpArgs false
theorem look_i {w : World} {b n : Nat} {D : DataW Unit} (h : isMi w b n D) (p : Int) (hp : (Lit.int .i64 p).wf = true) :
    ∃ c : Int, (Instr.lookup 87 (.map (some b)) (Value.int .i64 p) true).run Try.prog w = .ok (.tuple #[.int .i64 c, .bool (Maps.has D (.int .i64 p))]) w := by
  obtain ⟨v, ps, hrun, hv⟩ := h.look_ok lawI und_mi (zeroII w) (plainElem_int (H := Unit) (e := 3) (q := .i64) (a := 0) Try.underlying3 (by decide)) (keyOf_int_mk Try.underlying3 hp)
  obtain ⟨c, rfl, hc, hwc⟩ := plainElem_int_inv Try.underlying3 hv
  exact ⟨c, hrun⟩
abbrev evC (c0 c1 c2 c3 c4 : Int) : Array Value := #[.int .i64 c0, .int .i64 c1, .int .i64 c2, .int .i64 c3, .int .i64 c4]
theorem ev_cells {W : World} {b : Nat} {c0 c1 c2 c3 c4 : Int} (h : Blk W b (evC c0 c1 c2 c3 c4) 55) : W.cell? ⟨b, 0, none⟩ = some (.int .i64 c0) ∧ W.cell? ⟨b, 1, none⟩ = some (.int .i64 c1) ∧ W.cell? ⟨b, 2, none⟩ = some (.int .i64 c2) ∧ W.cell? ⟨b, 3, none⟩ = some (.int .i64 c3) ∧ W.cell? ⟨b, 4, none⟩ = some (.int .i64 c4) ∧ b < W.heap.size :=
  ⟨h.cell 0 _ rfl, h.cell 1 _ rfl, h.cell 2 _ rfl, h.cell 3 _ rfl, h.cell 4 _ rfl, h.lt⟩
section
variable {w w1 : World} {base k : Nat} {s : MS} {rows : List GR} {Dt Dp : DataW Unit}
set_option maxHeartbeats 2000000 in
set_option maxRecDepth 100000 in
theorem free_ok (h : IsMod w base s rows k Dt Dp) (c0 c1 c2 th pr own : Int) (wt : (Lit.int .i64 th).wf = true) (wp : (Lit.int .i64 pr).wf = true) (ht : Maps.has Dt (.int .i64 th) = false) (hp : Maps.has Dp (.int .i64 pr) = false) :
    Calls Try.prog 59 #[.pointer (some ⟨s.mb, 0, none⟩), .agg (evC c0 c1 c2 th pr), .int .i64 own] w fun e w' => e = .returned (.bool true) ∧ Bw w w' := by
  obtain ⟨w0, hw0⟩ : ∃ w0, w0 = w.alloc (.cells (evC c0 c1 c2 th pr) 55) := ⟨_, rfl⟩
  have HB0 := Aside0.mk (show Bw w w0 by rw [hw0]; exact (Bw.refl w).alloc _)
  obtain ⟨e0, e1, e2, e3, e4, el⟩ := ev_cells (show Blk w0 w.heap.size (evC c0 c1 c2 th pr) 55 by rw [hw0]; exact Blk.new w _ _)
  have h0 := h.bw HB0.out
  obtain ⟨m0, m1, m2, m3, ml⟩ := h0.cells
  obtain ⟨mt, _, hmt⟩ := h0.mt
  obtain ⟨mp, _, hmp⟩ := h0.mp
  obtain ⟨x, hx⟩ := look_i hmt.drew th wt
  obtain ⟨y, hy⟩ := look_i hmp.drew.drew pr wp
  rw [ht] at hx
  rw [hp] at hy
  clear h h0 hmt hmp
  go_enter Try.func59, Try.ntmps59
  go_wp2_with fail
  rw [← hw0]
  clear hw0
  go_region
  go_wp2_with fail
  go_region
  go_wp2_with fail
  go_ret
  exact ⟨rfl, HB0.out.drew.drew⟩
set_option maxHeartbeats 4000000 in
set_option maxRecDepth 100000 in
theorem runs_calls (h : IsMod w base s rows k Dt Dp) (kind : Int) (q5 : (kind == 5) = false) (q7 : (kind == 7) = false) (q2 : (kind == 2) = false) (i : Nat) (r : GR) (hr : rows[i]? = some r) (hw : r.what = 2) (ak : Int) (hak : ∀ W, Calls Try.prog 80 #[.int .i64 kind] W fun e w' => e = .returned (.int .i64 ak) ∧ Bw W w') (qa : (ak != -1) = true) (x : Int × Int)
    (hn : ∀ W, IsMod W base s rows k Dt Dp → Calls Try.prog 31 #[.pointer (some ⟨s.mb, 0, none⟩), .int .i64 (i : Int)] W fun e w' => e = .returned (insV x) ∧ Bw W w') :
    Calls Try.prog 60 #[.pointer (some ⟨s.mb, 0, none⟩), .agg (evC kind i (-1) r.th r.pr)] w fun e w' => e = .returned (.bool (x.1 == ak)) ∧ Bw w w' := by
  obtain ⟨w0, hw0⟩ : ∃ w0, w0 = w.alloc (.cells (evC kind i (-1) r.th r.pr) 55) := ⟨_, rfl⟩
  have HB0 := Aside0.mk (show Bw w w0 by rw [hw0]; exact (Bw.refl w).alloc _)
  have HK0 := Aside0.mk (show Blk w0 w.heap.size (evC kind i (-1) r.th r.pr) 55 by rw [hw0]; exact Blk.new w _ _)
  obtain ⟨e0, e1, e2, e3, e4, el⟩ := ev_cells HK0.out
  have h0 := h.bw HB0.out
  have H0 := Aside0.mk h0
  obtain ⟨m0, m1, m2, m3, ml⟩ := h0.cells
  obtain ⟨r0, r1, r2, r3, r4, hi⟩ := h0.rowAt hr
  have hgl : s.g < w0.heap.size := own_lt h0.row _ rfl
  have HN := Aside0.mk hn
  have HAK := Aside0.mk hak
  have n1 : (r.th != r.th) = false := by simp
  have n2 : (r.pr != r.pr) = false := by simp
  have hwn : (r.what != 2) = false := by rw [hw]; rfl
  obtain ⟨ra, rp, rt, rh, rq⟩ := r
  obtain ⟨xk, xa⟩ := x
  dsimp only [insV] at *
  subst hw
  have hf0 : ∀ W, (Instr.field 66 (.agg #[.int .i64 xk, .int .i64 xa]) 0).run Try.prog W = .ok (.int .i64 xk) W := fun W => fieldInstr0 xk xa W
  have hi0 : (0 : Int) ≤ (i : Int) := by omega
  have hi1 : (i : Int) < (s.n : Int) := by omega
  clear h h0 hr hn hak
  go_enter Try.func60, Try.ntmps60
  go_wp2_with fail
  rw [← hw0]
  clear hw0
  go_region
  obtain ⟨w1, hw1⟩ : ∃ w1, w1 = (w0.alloc (.cells #[.int .i64 2, .int .i64 rp, .int .i64 rt, .int .i64 rh, .int .i64 rq] 106)).drew := ⟨_, rfl⟩
  have hb1 : Bw w0 w1 := by rw [hw1]; exact ((Bw.refl w0).alloc _).drew
  have HK1 := Aside0.mk (HK0.out.bw hb1)
  have H1 := Aside0.mk (H0.out.bw hb1)
  have HB1 := Aside0.mk (HB0.out.trans hb1)
  have HR1 := Aside0.mk (show Blk w1 w0.heap.size (evC 2 rp rt rh rq) 106 by rw [hw1]; exact (Blk.new w0 _ _).drew)
  rw [← hw1]
  clear hw1 hb1 e0 e1 e2 e3 e4 m0 m1 m2 m3 r0 r1 r2 r3 r4
  obtain ⟨e0, e1, e2, e3, e4, el⟩ := ev_cells HK1.out
  have t0 := HR1.out.cell 0 (.int .i64 2) rfl
  have t3 := HR1.out.cell 3 (.int .i64 rh) rfl
  have t4 := HR1.out.cell 4 (.int .i64 rq) rfl
  have E0 : ∀ p : BwW w1, p.W.cell? ⟨w.heap.size, 0, none⟩ = some (.int .i64 kind) := fun p => p.cell e0
  have E1 : ∀ p : BwW w1, p.W.cell? ⟨w.heap.size, 1, none⟩ = some (.int .i64 (i : Int)) := fun p => p.cell e1
  go_wp2_with fail
  refine wp_region_bw (by kernel_rfl) (by kernel_rfl) ?_
  repeat (first | go_big_quiet_skip | (go_big_quiet_want; go_big_quiet_op; first | go_big_quiet_on | go_big_quiet_call (first | (go_at_call 80; exact qcall (HAK.out _)) | (go_at_call 31; exact qcall (HN.out _ (H1.out.bw (BwW.h _)))))))
  refine wpQuiet_nil ?_
  rintro w3 ⟨⟨_, hb3⟩, rfl⟩
  clear E0 E1
  have HB3 := Aside0.mk (HB1.out.trans hb3)
  clear hb3
  go_wp2_with fail
  go_ret
  exact ⟨rfl, HB3.out⟩
set_option maxHeartbeats 2000000 in
set_option maxRecDepth 100000 in
theorem may_runs (h : IsMod w base s rows k Dt Dp) (kind : Int) (q1 : (kind == 1) = false) (q9 : (kind == 9) = false) (q10 : (kind == 10) = false) (i : Nat) (c2 c3 c4 : Int) (b : Bool) (r : GR) (hr : rows[i]? = some r)
    (hn : ∀ W, IsMod W base s rows k Dt Dp → Calls Try.prog 60 #[.pointer (some ⟨s.mb, 0, none⟩), .agg (evC kind i c2 c3 c4)] W fun e w' => e = .returned (.bool b) ∧ Bw W w') :
    Calls Try.prog 27 #[.pointer (some ⟨s.mb, 0, none⟩), .agg (evC kind i c2 c3 c4)] w fun e w' => e = .returned (.bool b) ∧ Bw w w' := by
  obtain ⟨w0, hw0⟩ : ∃ w0, w0 = w.alloc (.cells (evC kind i c2 c3 c4) 55) := ⟨_, rfl⟩
  have HB0 := Aside0.mk (show Bw w w0 by rw [hw0]; exact (Bw.refl w).alloc _)
  have HK0 := Aside0.mk (show Blk w0 w.heap.size (evC kind i c2 c3 c4) 55 by rw [hw0]; exact Blk.new w _ _)
  obtain ⟨e0, e1, e2, e3, e4, el⟩ := ev_cells HK0.out
  have H0 := Aside0.mk (h.bw HB0.out)
  have hi : i < s.n := (h.rowAt hr).2.2.2.2.2
  have HKN := Aside0.mk (known_in H0.out i hi)
  have HN := Aside0.mk hn
  have HR := Aside0.mk hr
  have hi0 : (0 : Int) ≤ (i : Int) := by omega
  have hi1 : (i : Int) < (s.n : Int) := by omega
  clear h hr hn
  go_enter Try.func27, Try.ntmps27
  go_wp2_with fail
  rw [← hw0]
  clear hw0
  refine (HKN.out).mono ?_
  rintro e w1 ⟨rfl, hb1⟩
  have H1 := Aside0.mk (H0.out.bw hb1)
  have HK1 := Aside0.mk (HK0.out.bw hb1)
  have HB1 := Aside0.mk (HB0.out.trans hb1)
  clear hb1 e0 e1 e2 e3 e4 el
  obtain ⟨e0, e1, e2, e3, e4, el⟩ := ev_cells HK1.out
  obtain ⟨m0, m1, m2, m3, ml⟩ := H1.out.cells
  obtain ⟨r0, r1, r2, r3, r4, _⟩ := H1.out.rowAt HR.out
  have hgl : s.g < w1.heap.size := own_lt H1.out.row _ rfl
  go_wp2_with fail
  go_region
  obtain ⟨w2, hw2⟩ : ∃ w2, w2 = (w1.alloc (.cells #[.int .i64 r.what, .int .i64 r.program, .int .i64 r.at_, .int .i64 r.th, .int .i64 r.pr] 106)).drew := ⟨_, rfl⟩
  have hb2 : Bw w1 w2 := by rw [hw2]; exact ((Bw.refl w1).alloc _).drew
  have HK2 := Aside0.mk (HK1.out.bw hb2)
  have H2 := Aside0.mk (H1.out.bw hb2)
  have HB2 := Aside0.mk (HB1.out.trans hb2)
  rw [← hw2]
  clear hw2 hb2 e0 e1 e2 e3 e4 el m0 m1 m2 m3 r0 r1 r2 r3 r4
  obtain ⟨e0, e1, e2, e3, e4, el⟩ := ev_cells HK2.out
  go_wp2_with fail
  refine (HN.out _ H2.out).mono ?_
  rintro e w3 ⟨rfl, hb3⟩
  have HB3 := Aside0.mk (HB2.out.trans hb3)
  clear hb3
  go_wp2_with fail
  go_ret
  exact ⟨rfl, HB3.out⟩
set_option maxHeartbeats 2000000 in
set_option maxRecDepth 100000 in
theorem may_start (h : IsMod w base s rows k Dt Dp) (i : Nat) (th pr : Int) (r : GR) (hr : rows[i]? = some r) (hw : r.what = 1)
    (hf : ∀ W, IsMod W base s rows k Dt Dp → Calls Try.prog 59 #[.pointer (some ⟨s.mb, 0, none⟩), .agg (evC 1 i (-1) th pr), .int .i64 (-1)] W fun e w' => e = .returned (.bool true) ∧ Bw W w') :
    Calls Try.prog 27 #[.pointer (some ⟨s.mb, 0, none⟩), .agg (evC 1 i (-1) th pr)] w fun e w' => e = .returned (.bool true) ∧ Bw w w' := by
  obtain ⟨w0, hw0⟩ : ∃ w0, w0 = w.alloc (.cells (evC 1 i (-1) th pr) 55) := ⟨_, rfl⟩
  have HB0 := Aside0.mk (show Bw w w0 by rw [hw0]; exact (Bw.refl w).alloc _)
  have HK0 := Aside0.mk (show Blk w0 w.heap.size (evC 1 i (-1) th pr) 55 by rw [hw0]; exact Blk.new w _ _)
  obtain ⟨e0, e1, e2, e3, e4, el⟩ := ev_cells HK0.out
  have H0 := Aside0.mk (h.bw HB0.out)
  have hi : i < s.n := (h.rowAt hr).2.2.2.2.2
  have HKN := Aside0.mk (known_in H0.out i hi)
  have HN := Aside0.mk hf
  have HR := Aside0.mk hr
  have hi0 : (0 : Int) ≤ (i : Int) := by omega
  have hi1 : (i : Int) < (s.n : Int) := by omega
  obtain ⟨ra, rp, rt, rh, rq⟩ := r
  dsimp only at hw
  subst hw
  clear h hr hf
  go_enter Try.func27, Try.ntmps27
  go_wp2_with fail
  rw [← hw0]
  clear hw0
  refine (HKN.out).mono ?_
  rintro e w1 ⟨rfl, hb1⟩
  have H1 := Aside0.mk (H0.out.bw hb1)
  have HK1 := Aside0.mk (HK0.out.bw hb1)
  have HB1 := Aside0.mk (HB0.out.trans hb1)
  clear hb1 e0 e1 e2 e3 e4 el
  obtain ⟨e0, e1, e2, e3, e4, el⟩ := ev_cells HK1.out
  obtain ⟨m0, m1, m2, m3, ml⟩ := H1.out.cells
  obtain ⟨r0, r1, r2, r3, r4, _⟩ := H1.out.rowAt HR.out
  have hgl : s.g < w1.heap.size := own_lt H1.out.row _ rfl
  dsimp only at r0 r1 r2 r3 r4
  go_wp2_with fail
  go_region
  obtain ⟨w2, hw2⟩ : ∃ w2, w2 = (w1.alloc (.cells #[.int .i64 1, .int .i64 rp, .int .i64 rt, .int .i64 rh, .int .i64 rq] 106)).drew := ⟨_, rfl⟩
  have hb2 : Bw w1 w2 := by rw [hw2]; exact ((Bw.refl w1).alloc _).drew
  have HK2 := Aside0.mk (HK1.out.bw hb2)
  have H2 := Aside0.mk (H1.out.bw hb2)
  have HB2 := Aside0.mk (HB1.out.trans hb2)
  have HR2 := Aside0.mk (show Blk w2 w1.heap.size (evC 1 rp rt rh rq) 106 by rw [hw2]; exact (Blk.new w1 _ _).drew)
  rw [← hw2]
  clear hw2 hb2 e0 e1 e2 e3 e4 el m0 m1 m2 m3 r0 r1 r2 r3 r4
  obtain ⟨e0, e1, e2, e3, e4, el⟩ := ev_cells HK2.out
  have t0 := HR2.out.cell 0 (.int .i64 1) rfl
  go_wp2_with fail
  refine (HN.out _ H2.out).mono ?_
  rintro e w3 ⟨rfl, hb3⟩
  have HB3 := Aside0.mk (HB2.out.trans hb3)
  clear hb3
  go_wp2_with fail
  go_ret
  exact ⟨rfl, HB3.out⟩
end
end Go.Proofs.Ytoklhhcjcecbbaa.M
