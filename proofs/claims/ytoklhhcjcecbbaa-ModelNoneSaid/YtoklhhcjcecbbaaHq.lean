/- Package model: stops, passes, Do. Conditions: as the statements say. -/
import Derived.Test.YtoklhhcjcecbbaaHo
import Derived.StillTailTactics
namespace Go.Proofs.Ytoklhhcjcecbbaa.M
open Go.RowKit Go.Maps Go.Proofs.YtoklhhcjcecbbaaW.PrintWords Go.Proofs.YtoklhhcjcecbbaaW.PrintLast Go.Proofs.YtoklhhcjcecbbaaW.PrintMore
set_option linter.unusedVariables false
set_option linter.unusedSimpArgs false
theorem own_heap {w : World} {base n g : Nat} {e : TypeId} {sz : Nat} {v : Value} {xs : List Value} (h : w.ownsRow base e sz v n xs) (hg : v.ownBlock = some g) : ∃ cs, w.heap[g]? = some (.cells cs e (0, 0)) := by
  rcases h.2 with ⟨rfl, _⟩ | ⟨g', cap, cur, rfl, _, hh, _⟩
  · simp [Value.ownBlock] at hg
  · obtain rfl : g' = g := by simpa [Value.ownBlock] using hg
    exact ⟨cur, hh⟩
theorem IsCode.keepJ {S : Nat → Prop} {w w1 : World} {base b : Nat} {v : Value} {us : List Value} {pss : List (List (Int × Int))} (h : IsCode w base b v us pss) (hc : Chg S w w1) (hS : ∀ j, S j → ∀ cs T, w.heap[j]? = some (.cells cs T (0, 0)) → T = 106) : IsCode w1 base b v us pss := by
  refine ⟨h.le, h.blk.of_block (hc.block _ h.blk.lt fun hs => absurd (hS _ hs _ _ h.blk) (by decide)), own_of_block h.out fun g hg => hc.block g (own_lt h.out g hg) fun hs => ?_, h.nest.imp fun u hu n xs hw => own_of_block hw fun g hg => hc.block g (own_lt hw g hg) fun hs => ?_⟩
  · obtain ⟨cs, hh⟩ := own_heap h.out hg
    exact absurd (hS g hs _ _ hh) (by decide)
  · obtain ⟨cs, hh⟩ := own_heap hw hg
    exact absurd (hS g hs _ _ hh) (by decide)
theorem mt_chg' {w w1 : World} {mb : Nat} {S : Nat → Prop} (h : w.mapTurned w1 mb) (hS : S mb) : Chg S w w1 := by
  obtain ⟨es, cl, es', cl', hb, rfl⟩ := h
  refine ⟨rfl, rfl, rfl, by simp [Go.ChangeMaps.setBlock], fun i hi hs => ?_⟩
  exact Go.ChangeMaps.heap_setBlock_other hb _ (fun e => hs (by rw [e]; exact hS))
section
variable {w w1 : World} {base k : Nat} {s : MS} {rows : List GR} {Dt Dp Dt' Dp' : DataW Unit}
theorem IsMod.nes (h : IsMod w base s rows k Dt Dp) : s.mb ≠ s.g ∧ s.mb ≠ s.tb ∧ s.mb ≠ s.pb ∧ s.g ≠ s.tb ∧ s.g ≠ s.pb := by
  obtain ⟨m, _, es, cl, h1, _⟩ := h.mt
  obtain ⟨m', _, es', cl', h2, _⟩ := h.mp
  obtain ⟨cs, hg⟩ := own_heap h.row (g := s.g) rfl
  have hb := h.blk
  unfold Blk at hb
  refine ⟨fun e => ?_, fun e => ?_, fun e => ?_, fun e => ?_, fun e => ?_⟩
  · rw [e, hg] at hb
    have := (Option.some.inj hb)
    injection this with _ h3 _
    exact absurd h3 (by decide)
  · rw [e, h1] at hb; cases hb
  · rw [e, h2] at hb; cases hb
  · rw [e, h1] at hg; cases hg
  · rw [e, h2] at hg; cases hg
theorem IsMod.setRow (h : IsMod w base s rows k Dt Dp) {i j : Nat} {r r' : GR} {u : Value} (hr : rows[i]? = some r) (hj : j < 5) (he : encR r' = (encR r).set j u) : IsMod (w.setCell ⟨s.g, i * 5 + j, none⟩ u) base s (rows.set i r') k Dt Dp := by
  obtain ⟨n1, n2, n3, n4, n5⟩ := h.nes
  have hi : i < s.n := (h.rowAt hr).2.2.2.2.2
  obtain ⟨cs, hg⟩ := own_heap h.row (g := s.g) rfl
  refine ⟨h.le, h.blk.other _ _ (Ne.symm n1), ?_, by rw [List.length_set]; exact h.len, h.small, ?_, ?_, ?_, h.ne⟩
  · have := own_setg h.row (i * 5 + j) u (by omega)
    rw [flat_set (enc := encR) (sz := 5) (fun _ => rfl) rows i r r' hr j u hj he] at this
    exact this
  · refine h.code.keepJ ((Chg.refl (fun q => q = s.g) w).set (.inl rfl) u) fun q hq cs' T hh => ?_
    rw [hq, hg] at hh
    injection hh with hh
    injection hh with _ h3 _
    exact h3.symm
  · obtain ⟨m, h1, h2⟩ := h.mt
    exact ⟨m, h1, h2.setCell (Ne.symm n4) _⟩
  · obtain ⟨m, h1, h2⟩ := h.mp
    exact ⟨m, h1, h2.setCell (Ne.symm n5) _⟩
theorem IsMod.turnT {k' : Nat} (h : IsMod w base s rows k Dt Dp) (hc : Chg (fun j => j = s.tb) w w1) (hk : k ≤ k' ∧ k' ≤ 1000000) (hm : ∃ m, m ≤ k' ∧ isMi w1 s.tb m Dt') : IsMod w1 base s rows k' Dt' Dp := by
  obtain ⟨n1, n2, n3, n4, n5⟩ := h.nes
  obtain ⟨m, h1, h2⟩ := h.mp
  obtain ⟨_, _, es0, cl0, h0, _⟩ := h.mt
  refine ⟨h.le, h.blk.of_block (hc.block _ h.blk.lt n2), own_of_block h.row fun g hg => hc.block g (own_lt h.row g hg) (by obtain rfl : s.g = g := (by simpa [Value.ownBlock] using hg); exact n4), h.len, ⟨h.small.1, hk.2⟩, h.code.keepJ hc (fun q hq cs T hh => by rw [hq, h0] at hh; cases hh), hm, ?_, h.ne⟩
  have hb := hc.block s.pb h2.lt (Ne.symm h.ne)
  obtain ⟨es, clock, he, r⟩ := h2
  exact ⟨m, by omega, es, clock, hb.trans he, r⟩
theorem IsMod.turnP {k' : Nat} (h : IsMod w base s rows k Dt Dp) (hc : Chg (fun j => j = s.pb) w w1) (hk : k ≤ k' ∧ k' ≤ 1000000) (hm : ∃ m, m ≤ k' ∧ isMi w1 s.pb m Dp') : IsMod w1 base s rows k' Dt Dp' := by
  obtain ⟨n1, n2, n3, n4, n5⟩ := h.nes
  obtain ⟨m, h1, h2⟩ := h.mt
  obtain ⟨_, _, es0, cl0, h0, _⟩ := h.mp
  refine ⟨h.le, h.blk.of_block (hc.block _ h.blk.lt n3), own_of_block h.row fun g hg => hc.block g (own_lt h.row g hg) (by obtain rfl : s.g = g := (by simpa [Value.ownBlock] using hg); exact n5), h.len, ⟨h.small.1, hk.2⟩, h.code.keepJ hc (fun q hq cs T hh => by rw [hq, h0] at hh; cases hh), ?_, hm, h.ne⟩
  have hb := hc.block s.tb h2.lt h.ne
  obtain ⟨es, clock, he, r⟩ := h2
  exact ⟨m, by omega, es, clock, hb.trans he, r⟩
def MF (s : MS) : Nat → Prop := fun j => j = s.g ∨ j = s.tb ∨ j = s.pb
theorem IsMod.dropT (h : IsMod w base s rows k Dt Dp) (t : Int) (ht : (Lit.int .i64 t).wf = true) : ∃ w1, (Builtin.delete_ #[87, 3] 0 #[.map (some s.tb), .int .i64 t]).run Try.prog w = .ok (.tuple #[]) w1 ∧ IsMod w1 base s rows k (Dt.del (.int .i64 t)) Dp ∧ Chg (MF s) w w1 := by
  obtain ⟨m, h1, h2⟩ := h.mt
  obtain ⟨w1, hrun, hm, hmt⟩ := World.ownsMap.drop h2 lawI und_mi (keyOf_int_mk Try.underlying3 ht) 0
  exact ⟨w1, hrun, h.turnT (mt_chg' hmt rfl) ⟨Nat.le_refl _, h.small.2⟩ ⟨m, h1, hm⟩, mt_chg' hmt (.inr (.inl rfl))⟩
theorem IsMod.dropP (h : IsMod w base s rows k Dt Dp) (t : Int) (ht : (Lit.int .i64 t).wf = true) : ∃ w1, (Builtin.delete_ #[87, 3] 0 #[.map (some s.pb), .int .i64 t]).run Try.prog w = .ok (.tuple #[]) w1 ∧ IsMod w1 base s rows k Dt (Dp.del (.int .i64 t)) ∧ Chg (MF s) w w1 := by
  obtain ⟨m, h1, h2⟩ := h.mp
  obtain ⟨w1, hrun, hm, hmt⟩ := World.ownsMap.drop h2 lawI und_mi (keyOf_int_mk Try.underlying3 ht) 0
  exact ⟨w1, hrun, h.turnP (mt_chg' hmt rfl) ⟨Nat.le_refl _, h.small.2⟩ ⟨m, h1, hm⟩, mt_chg' hmt (.inr (.inr rfl))⟩
set_option maxHeartbeats 4000000 in
set_option maxRecDepth 100000 in
theorem stops_calls (h : IsMod w base s rows k Dt Dp) (i : Nat) (r : GR) (hr : rows[i]? = some r) (x : Int) (hx : (x != 4) = true) (wt : (Lit.int .i64 r.th).wf = true) (wp : (Lit.int .i64 r.pr).wf = true) :
    Calls Try.prog 62 #[.pointer (some ⟨s.mb, 0, none⟩), .int .i64 (i : Int), .int .i64 x] w fun e w' => e = .returned (.tuple #[]) ∧ IsMod w' base s (rows.set i ⟨x, r.program, r.at_, r.th, r.pr⟩) k (Dt.del (.int .i64 r.th)) (Dp.del (.int .i64 r.pr)) ∧ Chg (MF s) w w' := by
  obtain ⟨c0, c1, c2, c3, cl⟩ := h.cells
  obtain ⟨r0, r1, r2, r3, r4, hi⟩ := h.rowAt hr
  have hd : IsMod w.drew base s rows k Dt Dp := h.bw ((Bw.refl w).drew)
  obtain ⟨w1, hrun1, h1, hc1⟩ := hd.dropP r.pr wp
  have h1d : IsMod w1.drew base s rows k Dt (Dp.del (.int .i64 r.pr)) := h1.bw ((Bw.refl w1).drew)
  obtain ⟨w2, hrun2, h2, hc2⟩ := h1d.dropT r.th wt
  obtain ⟨d0, d1, d2, d3, dl⟩ := h1.cells
  obtain ⟨t0, t1, t2, t3, t4, _⟩ := h1.rowAt hr
  obtain ⟨f0, f1, f2, f3, f4, _⟩ := h2.rowAt hr
  have hfz : w2.frozen? ⟨s.g, i * 5, none⟩ = false := own_free h2.row (i * 5)
  have H2 := Aside0.mk (h2.setRow (r' := ⟨x, r.program, r.at_, r.th, r.pr⟩) (u := .int .i64 x) hr (j := 0) (by decide) rfl)
  have C2 := Aside0.mk (((((Chg.refl (MF s) w).drew).trans hc1).drew).trans hc2)
  have hi0 : (0 : Int) ≤ (i : Int) := by omega
  have hi1 : (i : Int) < (s.n : Int) := by omega
  clear h hr hd h1 h1d h2 hc1 hc2
  go_enter Try.func62, Try.ntmps62
  go_wp2_with fail
  go_region
  clear hrun1 c0 c1 c2 c3 r0 r1 r2 r3 r4
  go_wp2_with fail
  go_region
  clear hrun2
  go_wp2_with fail
  go_end0
  exact ⟨rfl, H2.out, C2.out.set (.inl (show MF s s.g from .inl rfl)) _⟩
set_option maxHeartbeats 4000000 in
set_option maxRecDepth 100000 in
theorem passes_calls (h : IsMod w base s rows k Dt Dp) (kind : Int) (q7 : (kind == 7) = false) (i : Nat) (r : GR) (hr : rows[i]? = some r) (c2 c3 c4 : Int) (ak : Int) (hak : ∀ W, Calls Try.prog 80 #[.int .i64 kind] W fun e w' => e = .returned (.int .i64 ak) ∧ Bw W w') (qa : (ak != -1) = true) (x : Int × Int) (p : Nat) (hp : p ≤ 1000000)
    (hn : ∀ W, IsMod W base s rows k Dt Dp → Calls Try.prog 63 #[.pointer (some ⟨s.mb, 0, none⟩), .int .i64 (i : Int)] W fun e w' => e = .returned (nextV x p) ∧ Bw W w') :
    Calls Try.prog 61 #[.pointer (some ⟨s.mb, 0, none⟩), .agg (evC kind i c2 c3 c4)] w fun e w' => e = .returned (.tuple #[]) ∧ IsMod w' base s (rows.set i ⟨r.what, r.program, (p : Int) + 1, r.th, r.pr⟩) k Dt Dp ∧ Chg (MF s) w w' := by
  obtain ⟨w0, hw0⟩ : ∃ w0, w0 = w.alloc (.cells (evC kind i c2 c3 c4) 55) := ⟨_, rfl⟩
  have HB0 := Aside0.mk (show Bw w w0 by rw [hw0]; exact (Bw.refl w).alloc _)
  have HK0 := Aside0.mk (show Blk w0 w.heap.size (evC kind i c2 c3 c4) 55 by rw [hw0]; exact Blk.new w _ _)
  obtain ⟨e0, e1, e2, e3, e4, el⟩ := ev_cells HK0.out
  have H0 := Aside0.mk (h.bw HB0.out)
  obtain ⟨m0, m1, m2, m3, ml⟩ := H0.out.cells
  have hi : i < s.n := (h.rowAt hr).2.2.2.2.2
  have HN := Aside0.mk hn
  have HAK := Aside0.mk hak
  have HR := Aside0.mk hr
  have hi0 : (0 : Int) ≤ (i : Int) := by omega
  have hi1 : (i : Int) < (s.n : Int) := by omega
  have hwp : wrap64 ((p : Int) + 1) = (p : Int) + 1 := by simp [wrap64]; omega
  obtain ⟨xk, xa⟩ := x
  dsimp only [nextV, insV] at HN
  clear h hr hn hak
  go_enter Try.func61, Try.ntmps61
  go_wp2_with fail
  rw [← hw0]
  clear hw0
  go_region
  have H1 := Aside0.mk (H0.out.bw (Bw.refl w0).drew)
  have HK1 := Aside0.mk (HK0.out.bw (Bw.refl w0).drew)
  go_wp2_with fail
  refine (HAK.out _).mono ?_
  rintro e w1 ⟨rfl, hb1⟩
  have H2 := Aside0.mk (H1.out.bw hb1)
  have HK2 := Aside0.mk (HK1.out.bw hb1)
  have HB2 := Aside0.mk (HB0.out.drew.trans hb1)
  clear hb1 e0 e1 e2 e3 e4 el m0 m1 m2 m3
  obtain ⟨e0, e1, e2, e3, e4, el⟩ := ev_cells HK2.out
  go_wp2_with fail
  refine (HN.out _ H2.out).mono ?_
  rintro e w2 ⟨rfl, hb2⟩
  have H3 := Aside0.mk (H2.out.bw hb2)
  have HB3 := Aside0.mk (HB2.out.trans hb2)
  obtain ⟨r0, r1, r2, r3, r4, _⟩ := (H2.out.bw hb2).rowAt HR.out
  have hfz : w2.frozen? ⟨s.g, i * 5 + 2, none⟩ = false := own_free (H2.out.bw hb2).row (i * 5 + 2)
  have hgl : s.g < w2.heap.size := own_lt (H2.out.bw hb2).row _ rfl
  clear hb2 e0 e1 e2 e3 e4 el
  go_wp2_with fail
  go_end0
  exact ⟨rfl, (H3.out.setRow (r' := ⟨r.what, r.program, (p : Int) + 1, r.th, r.pr⟩) (u := .int .i64 ((p : Int) + 1)) HR.out (j := 2) (by decide) rfl).bw ((Bw.refl _).alloc _), ((Chg.of_bw HB3.out).set (.inl (show MF s s.g from .inl rfl)) _).alloc _⟩
theorem mi_of_block {w w1 : World} {b n : Nat} {D : DataW Unit} (h : isMi w b n D) (e : w1.heap[b]? = w.heap[b]?) : isMi w1 b n D := by
  obtain ⟨es, clock, he, r⟩ := h
  exact ⟨es, clock, e.trans he, r⟩
theorem entry_iq {w : World} {b n : Nat} {D : DataW Unit} (h : isMi w b n D) (hn : n < maxLen) (p : Int) (hp : (Lit.int .i64 p).wf = true) :
    ∃ (c st : Int) (w1 : World), (Instr.mapEntry 87 (.map (some b)) (.int .i64 p)).run Try.prog w = .ok (.tuple #[.int .i64 c, .int .i64 st]) w1 ∧
      ∀ v : Int, (Lit.int .i64 v).wf = true → ∃ w2, (Instr.entryStore 87 (.map (some b)) (.int .i64 st) (.int .i64 v)).run Try.prog w1 = .ok () w2 ∧ isMi w2 b (n + 1) (D.put (.int .i64 p) (.lit (.int .i64 v))) ∧ w.grownBy w2 (some b) := by
  obtain ⟨c, st, w1, _, h1, h2, h3, h4⟩ := entry_ii h hn p hp
  exact ⟨c, st, w1, h2, h4⟩
open Go.WideElems Go.ChangeMaps in
theorem entry_far {w w1 : World} {b n : Nat} {D : DataW Unit} {v : Value} (h : isMi w b n D) (p : Int) (hp : (Lit.int .i64 p).wf = true) (hrun : (Instr.mapEntry 87 (.map (some b)) (Value.int .i64 p)).run Try.prog w = .ok v w1) : ∀ j, j ≠ b → w1.heap[j]? = w.heap[j]? := by
  have hkey := keyOf_int_mk Try.underlying3 hp
  obtain ⟨es, clock, hb, F, hs, rfl⟩ := h
  rcases lawI.find w hkey es.toList F.keys with ⟨h1, h2⟩ | ⟨j, e0, h1, h2, h3⟩
  · have e : (Instr.mapEntry 87 (.map (some b)) (Value.int .i64 p)).run Try.prog w = .ok (.tuple #[.int .i64 0, goInt clock]) (setBlock w b (.map (es.push ⟨Value.int .i64 p, .int .i64 0, clock⟩) (clock + 1))) := by
      simp [Instr.mapEntry, run_underlying und_mi, MapKept.run_getObj_map hb, lawI.check w false hkey, h1, zeroII w, MapKept.run_setObj_map _ hb, Result.andThen, setBlock]
    rw [e] at hrun
    injection hrun with _ hrun
    intro q hq
    rw [← hrun]
    exact heap_setBlock_other hb _ hq
  · have hj : es[j]? = some e0 := by simpa using h2
    have e : (Instr.mapEntry 87 (.map (some b)) (Value.int .i64 p)).run Try.prog w = .ok (.tuple #[e0.val, goInt e0.born]) (setBlock w b (.map (es.modify j fun e => { e with key := Value.int .i64 p }) clock)) := by
      simp [Instr.mapEntry, run_underlying und_mi, MapKept.run_getObj_map hb, lawI.check w false hkey, h1, hj, h3, lawI.stays w hkey, MapKept.run_setObj_map _ hb, Result.andThen, setBlock]
    rw [e] at hrun
    injection hrun with _ hrun
    intro q hq
    rw [← hrun]
    exact heap_setBlock_other hb _ hq
theorem grown_chg {w w1 : World} {b : Nat} {S : Nat → Prop} (h : w.grownBy w1 (some b)) (hS : S b) : Chg S w w1 := ⟨h.os, h.tape, h.output, h.size, fun i hi hs => h.block i hi (fun e => hs (by injection e with e; rw [e]; exact hS))⟩
set_option maxHeartbeats 4000000 in
set_option maxRecDepth 100000 in
theorem do_stop (h : IsMod w base s rows k Dt Dp) (kind st : Int) (hks : (kind = 4 ∧ st = 1) ∨ (kind = 11 ∧ st = 5)) (i : Nat) (r : GR) (hr : rows[i]? = some r) (p : Nat) (x : Int × Int)
    (hmay : ∀ W, IsMod W base s rows k Dt Dp → Calls Try.prog 27 #[.pointer (some ⟨s.mb, 0, none⟩), .agg (evC kind i (-1) r.th r.pr)] W fun e w' => e = .returned (.bool true) ∧ Bw W w')
    (hnext : ∀ W, IsMod W base s rows k Dt Dp → Calls Try.prog 31 #[.pointer (some ⟨s.mb, 0, none⟩), .int .i64 (i : Int)] W fun e w' => e = .returned (insV x) ∧ Bw W w')
    (hpass : ∀ W, IsMod W base s rows k Dt Dp → Calls Try.prog 61 #[.pointer (some ⟨s.mb, 0, none⟩), .agg (evC kind i (-1) r.th r.pr)] W fun e w' => e = .returned (.tuple #[]) ∧ IsMod w' base s (rows.set i ⟨r.what, r.program, (p : Int) + 1, r.th, r.pr⟩) k Dt Dp ∧ Chg (MF s) W w')
    (hstop : ∀ W, IsMod W base s (rows.set i ⟨r.what, r.program, (p : Int) + 1, r.th, r.pr⟩) k Dt Dp → Calls Try.prog 62 #[.pointer (some ⟨s.mb, 0, none⟩), .int .i64 (i : Int), .int .i64 st] W fun e w' => e = .returned (.tuple #[]) ∧ IsMod w' base s (rows.set i ⟨st, r.program, (p : Int) + 1, r.th, r.pr⟩) k Dt' Dp' ∧ Chg (MF s) W w') :
    Calls Try.prog 28 #[.pointer (some ⟨s.mb, 0, none⟩), .agg (evC kind i (-1) r.th r.pr)] w fun e w' => e = .returned (.int .i64 0) ∧ IsMod w' base s (rows.set i ⟨st, r.program, (p : Int) + 1, r.th, r.pr⟩) k Dt' Dp' ∧ Chg (MF s) w w' := by
  obtain ⟨w0, hw0⟩ : ∃ w0, w0 = w.alloc (.cells (evC kind i (-1) r.th r.pr) 55) := ⟨_, rfl⟩
  have HB0 := Aside0.mk (show Bw w w0 by rw [hw0]; exact (Bw.refl w).alloc _)
  have HK0 := Aside0.mk (show Blk w0 w.heap.size (evC kind i (-1) r.th r.pr) 55 by rw [hw0]; exact Blk.new w _ _)
  have H0 := Aside0.mk (h.bw HB0.out)
  have hi : i < s.n := (h.rowAt hr).2.2.2.2.2
  have OLD := Aside0.mk (show ∀ j, MF s j → j < w.heap.size from fun j hj => by
    rcases hj with e | e | e
    · rw [e]; exact own_lt h.row _ rfl
    · rw [e]; obtain ⟨_, _, hm⟩ := h.mt; exact hm.lt
    · rw [e]; obtain ⟨_, _, hm⟩ := h.mp; exact hm.lt)
  have HM := Aside0.mk hmay
  have HX := Aside0.mk hnext
  have HP := Aside0.mk hpass
  have HS := Aside0.mk hstop
  have hi0 : (0 : Int) ≤ (i : Int) := by omega
  have hi1 : (i : Int) < (s.n : Int) := by omega
  obtain ⟨xk, xa⟩ := x
  dsimp only [insV] at HX
  have hf1 : ∀ W, (Instr.field 66 (.agg #[.int .i64 xk, .int .i64 xa]) 1).run Try.prog W = .ok (.int .i64 xa) W := fun W => fieldInstr1 xk xa W
  generalize rows.set i ⟨r.what, r.program, (p : Int) + 1, r.th, r.pr⟩ = R1 at HP HS
  generalize rows.set i ⟨st, r.program, (p : Int) + 1, r.th, r.pr⟩ = R2 at HS ⊢
  clear h hr hmay hnext hpass hstop
  rcases hks with ⟨rfl, rfl⟩ | ⟨rfl, rfl⟩
  all_goals
    go_enter Try.func28, Try.ntmps28
    go_wp2_with fail
    rw [← hw0]
    clear hw0
    obtain ⟨e0, e1, e2, e3, e4, el⟩ := ev_cells HK0.out
    go_wp2_with fail
    refine (HM.out _ H0.out).mono ?_
    rintro e w1 ⟨rfl, hb1⟩
    have H1 := Aside0.mk (H0.out.bw hb1)
    have HK1 := Aside0.mk (HK0.out.bw hb1)
    have HB1 := Aside0.mk (HB0.out.trans hb1)
    clear hb1 e0 e1 e2 e3 e4 el
    obtain ⟨e0, e1, e2, e3, e4, el⟩ := ev_cells HK1.out
    go_wp2_with fail
    refine (HX.out _ H1.out).mono ?_
    rintro e w2 ⟨rfl, hb2⟩
    have H2 := Aside0.mk (H1.out.bw hb2)
    have HK2 := Aside0.mk (HK1.out.bw hb2)
    have HB2 := Aside0.mk (HB1.out.trans hb2)
    clear hb2 e0 e1 e2 e3 e4 el
    obtain ⟨e0, e1, e2, e3, e4, el⟩ := ev_cells HK2.out
    go_wp2_with fail
    refine (HP.out _ H2.out).mono ?_
    rintro e w3 ⟨rfl, h3, c3⟩
    have H3 := Aside0.mk h3
    have HK3 := Aside0.mk (HK2.out.of_block (c3.block _ HK2.out.lt (fun e => absurd (OLD.out _ e) (Nat.lt_irrefl _))))
    have C3 := Aside0.mk ((Chg.of_bw HB2.out).trans c3)
    clear h3 c3 e0 e1 e2 e3 e4 el
    obtain ⟨e0, e1, e2, e3, e4, el⟩ := ev_cells HK3.out
    obtain ⟨m0, m1, m2, m3, ml⟩ := H3.out.cells
    go_wp2_with fail
    go_region
    have H3d := Aside0.mk (H3.out.bw (Bw.refl w3).drew)
    go_wp2_with fail
    refine (HS.out _ H3d.out).mono ?_
    rintro e w4 ⟨rfl, h4, c4⟩
    have H4 := Aside0.mk h4
    have C4 := Aside0.mk (C3.out.drew.trans c4)
    clear h4 c4 e0 e1 e2 e3 e4 el m0 m1 m2 m3
    go_wp2_with fail
    go_ret
    exact ⟨rfl, H4.out, C4.out⟩
set_option maxHeartbeats 4000000 in
set_option maxRecDepth 100000 in
theorem do_start (h : IsMod w base s rows k Dt Dp) (hk : k < 1000000) (i : Nat) (th pr : Int) (wt : (Lit.int .i64 th).wf = true) (wp : (Lit.int .i64 pr).wf = true) (r : GR) (hr : rows[i]? = some r) (x : Int × Int)
    (hmay : ∀ W, IsMod W base s rows k Dt Dp → Calls Try.prog 27 #[.pointer (some ⟨s.mb, 0, none⟩), .agg (evC 1 i (-1) th pr)] W fun e w' => e = .returned (.bool true) ∧ Bw W w')
    (hnext : ∀ W, IsMod W base s rows k Dt Dp → Calls Try.prog 31 #[.pointer (some ⟨s.mb, 0, none⟩), .int .i64 (i : Int)] W fun e w' => e = .returned (insV x) ∧ Bw W w') :
    Calls Try.prog 28 #[.pointer (some ⟨s.mb, 0, none⟩), .agg (evC 1 i (-1) th pr)] w fun e w' => e = .returned (.int .i64 0) ∧ IsMod w' base s (rows.set i ⟨2, r.program, r.at_, th, pr⟩) (k + 1) (Dt.put (.int .i64 th) (.lit (.int .i64 (i : Int)))) (Dp.put (.int .i64 pr) (.lit (.int .i64 (i : Int)))) ∧ Chg (MF s) w w' := by
  obtain ⟨w0, hw0⟩ : ∃ w0, w0 = w.alloc (.cells (evC 1 i (-1) th pr) 55) := ⟨_, rfl⟩
  have HB0 := Aside0.mk (show Bw w w0 by rw [hw0]; exact (Bw.refl w).alloc _)
  have HK0 := Aside0.mk (show Blk w0 w.heap.size (evC 1 i (-1) th pr) 55 by rw [hw0]; exact Blk.new w _ _)
  have H0 := Aside0.mk (h.bw HB0.out)
  have hi : i < s.n := (h.rowAt hr).2.2.2.2.2
  have OLD := Aside0.mk (show ∀ j, MF s j → j < w.heap.size from fun j hj => by
    rcases hj with e | e | e
    · rw [e]; exact own_lt h.row _ rfl
    · rw [e]; obtain ⟨_, _, hm⟩ := h.mt; exact hm.lt
    · rw [e]; obtain ⟨_, _, hm⟩ := h.mp; exact hm.lt)
  have HM := Aside0.mk hmay
  have HX := Aside0.mk hnext
  have HR := Aside0.mk hr
  have hi0 : (0 : Int) ≤ (i : Int) := by omega
  have hi1 : (i : Int) < (s.n : Int) := by omega
  have hn16 := h.small.1
  have wfi : (Lit.int .i64 (i : Int)).wf = true := by simp [Lit.wf, IntKind.min, IntKind.max, IntKind.signed, IntKind.bits]; omega
  obtain ⟨xk, xa⟩ := x
  dsimp only [insV] at HX
  have hf1 : ∀ W, (Instr.field 66 (.agg #[.int .i64 xk, .int .i64 xa]) 1).run Try.prog W = .ok (.int .i64 xa) W := fun W => fieldInstr1 xk xa W
  clear h hr hmay hnext
  go_enter Try.func28, Try.ntmps28
  go_wp2_with fail
  rw [← hw0]
  clear hw0
  obtain ⟨e0, e1, e2, e3, e4, el⟩ := ev_cells HK0.out
  go_wp2_with fail
  refine (HM.out _ H0.out).mono ?_
  rintro e w1 ⟨rfl, hb1⟩
  have H1 := Aside0.mk (H0.out.bw hb1)
  have HK1 := Aside0.mk (HK0.out.bw hb1)
  have HB1 := Aside0.mk (HB0.out.trans hb1)
  clear hb1 e0 e1 e2 e3 e4 el
  obtain ⟨e0, e1, e2, e3, e4, el⟩ := ev_cells HK1.out
  go_wp2_with fail
  refine (HX.out _ H1.out).mono ?_
  rintro e w2 ⟨rfl, hb2⟩
  have H2 := Aside0.mk (H1.out.bw hb2)
  have HK2 := Aside0.mk (HK1.out.bw hb2)
  have HB2 := Aside0.mk (HB1.out.trans hb2)
  clear hb2 e0 e1 e2 e3 e4 el
  obtain ⟨e0, e1, e2, e3, e4, el⟩ := ev_cells HK2.out
  obtain ⟨m0, m1, m2, m3, ml⟩ := H2.out.cells
  go_wp2_with fail
  go_region
  have H3 := Aside0.mk (H2.out.bw (Bw.refl w2).drew)
  have HK3 := Aside0.mk (HK2.out.bw (Bw.refl w2).drew)
  have HB3 := Aside0.mk HB2.out.drew
  obtain ⟨r0, r1, r2, r3, r4, _⟩ := H2.out.rowAt HR.out
  have hfz : ∀ j, w2.frozen? ⟨s.g, j, none⟩ = false := fun j => own_free H2.out.row j
  have hgl : s.g < w2.heap.size := own_lt H2.out.row _ rfl
  go_wp2_with fail
  go_region
  obtain ⟨w5, hw5⟩ : ∃ w5, w5 = (((w2.setCell ⟨s.g, i * 5, none⟩ (.int .i64 2)).setCell ⟨s.g, i * 5 + 3, none⟩ (.int .i64 th)).setCell ⟨s.g, i * 5 + 4, none⟩ (.int .i64 pr)).drew.drew := ⟨_, rfl⟩
  rw [← hw5]
  obtain ⟨n1, n2, n3, n4, n5⟩ := H2.out.nes
  have hgw : s.g ≠ w.heap.size := fun e => absurd (OLD.out s.g (.inl rfl)) (by omega)
  have hil : i < rows.length := (List.getElem?_eq_some_iff.1 HR.out).1
  have hm5 : IsMod w5 base s (rows.set i ⟨2, r.program, r.at_, th, pr⟩) k Dt Dp := by
    have a1 := H2.out.setRow (r' := ⟨2, r.program, r.at_, r.th, r.pr⟩) (u := .int .i64 2) HR.out (j := 0) (by decide) rfl
    have a2 := a1.setRow (i := i) (r := ⟨2, r.program, r.at_, r.th, r.pr⟩) (r' := ⟨2, r.program, r.at_, th, r.pr⟩) (u := .int .i64 th) (by rw [List.getElem?_set_self hil]) (j := 3) (by decide) rfl
    have a3 := a2.setRow (i := i) (r := ⟨2, r.program, r.at_, th, r.pr⟩) (r' := ⟨2, r.program, r.at_, th, pr⟩) (u := .int .i64 pr) (by rw [List.getElem?_set_self (by simpa using hil)]) (j := 4) (by decide) rfl
    rw [List.set_set, List.set_set] at a3
    rw [hw5]
    exact a3.bw ((Bw.refl _).drew.drew)
  have hc5 : Chg (MF s) w w5 := by
    rw [hw5]
    exact (((((Chg.of_bw HB2.out).set (.inl (show MF s s.g from .inl rfl)) _).set (.inl (show MF s s.g from .inl rfl)) _).set (.inl (show MF s s.g from .inl rfl)) _).drew).drew
  have hk5 : Blk w5 w.heap.size (evC 1 i (-1) th pr) 55 := by
    rw [hw5]
    exact ((HK2.out.other _ _ hgw).other _ _ hgw).other _ _ hgw
  clear hw5 e0 e1 e2 e3 e4 el m0 m1 m2 m3 ml r0 r1 r2 r3 r4 hfz hgl
  have hm5d : IsMod w5.drew base s (rows.set i ⟨2, r.program, r.at_, th, pr⟩) k Dt Dp := hm5.bw ((Bw.refl w5).drew)
  obtain ⟨mt, ht1, ht2⟩ := hm5d.mt
  obtain ⟨cc, st, w6, a1, a4⟩ := entry_iq ht2 (by unfold maxLen; omega) th wt
  obtain ⟨w7, a5, hmt7, hg7⟩ := a4 i wfi
  have hm7 := hm5d.turnT (k' := k + 1) (grown_chg hg7 rfl) ⟨by omega, by omega⟩ ⟨mt + 1, by omega, hmt7⟩
  obtain ⟨mp, hp1, hp0⟩ := hm5d.mp
  have hp2 := mi_of_block hp0 ((grown_chg (S := fun j => j = s.tb) hg7 rfl).block s.pb hp0.lt (Ne.symm hm5d.ne))
  obtain ⟨cc', st', w8, b1, b4⟩ := entry_iq hp2 (by unfold maxLen; omega) pr wp
  obtain ⟨w9, b5, hmp9, hg9⟩ := b4 i wfi
  have hwt : w.heap.size ≠ s.tb := fun e => absurd (OLD.out s.tb (.inr (.inl rfl))) (by omega)
  have hwq : w.heap.size ≠ s.pb := fun e => absurd (OLD.out s.pb (.inr (.inr rfl))) (by omega)
  have far6 : ∀ q, q ≠ s.tb → w6.heap[q]? = w5.heap[q]? := fun q hn => entry_far (w := w5.drew) ht2 th wt a1 q hn
  have far7 : ∀ q, q < w5.heap.size → q ≠ s.tb → w7.heap[q]? = w5.heap[q]? := fun q hq hn => (grown_chg (S := fun j => j = s.tb) hg7 rfl).block q hq hn
  have far8 : ∀ q, q < w5.heap.size → q ≠ s.tb → q ≠ s.pb → w8.heap[q]? = w5.heap[q]? := fun q hq h1 h2 => (entry_far hp2 pr wp b1 q h2).trans (far7 q hq h1)
  have hk6 := hk5.of_block (far6 _ hwt)
  have hk7 := hk5.of_block (far7 _ hk5.lt hwt)
  have hk8 := hk5.of_block (far8 _ hk5.lt hwt hwq)
  have hmb6 := hm5.blk.of_block (far6 _ n2)
  have hmb7 := hm5.blk.of_block (far7 _ hm5.blk.lt n2)
  have hmb8 := hm5.blk.of_block (far8 _ hm5.blk.lt n2 n3)
  have x6 := hk6.cell 1 (.int .i64 (i : Int)) rfl
  have y6 := hk6.cell 3 (.int .i64 th) rfl
  have z6 := hk6.cell 4 (.int .i64 pr) rfl
  have u6 := hmb6.cell 2 (.map (some s.tb)) rfl
  have v6 := hmb6.cell 3 (.map (some s.pb)) rfl
  have x7 := hk7.cell 1 (.int .i64 (i : Int)) rfl
  have y7 := hk7.cell 3 (.int .i64 th) rfl
  have z7 := hk7.cell 4 (.int .i64 pr) rfl
  have u7 := hmb7.cell 2 (.map (some s.tb)) rfl
  have v7 := hmb7.cell 3 (.map (some s.pb)) rfl
  have x8 := hk8.cell 1 (.int .i64 (i : Int)) rfl
  have y8 := hk8.cell 3 (.int .i64 th) rfl
  have z8 := hk8.cell 4 (.int .i64 pr) rfl
  have u8 := hmb8.cell 2 (.map (some s.tb)) rfl
  have v8 := hmb8.cell 3 (.map (some s.pb)) rfl
  have HM9 := Aside0.mk (hm7.turnP (k' := k + 1) (grown_chg hg9 rfl) ⟨Nat.le_refl _, by omega⟩ ⟨mp + 1, by omega, hmp9⟩)
  have HC9 := Aside0.mk (((hc5.drew).trans (grown_chg (S := MF s) hg7 (.inr (.inl rfl)))).trans (grown_chg (S := MF s) hg9 (.inr (.inr rfl))))
  obtain ⟨e0, e1, e2, e3, e4, el⟩ := ev_cells hk5
  obtain ⟨m0, m1, m2, m3, ml⟩ := hm5.cells
  clear hm5 hc5 hk5 hm5d ht2 a4 hmt7 hg7 hm7 hp0 hp2 b4 hmp9 hg9 far6 far7 far8 hk6 hk7 hk8 hmb6 hmb7 hmb8
  go_wp2_with fail
  go_region
  go_wp2_with fail
  go_ret
  exact ⟨rfl, HM9.out, HC9.out⟩
end
end Go.Proofs.Ytoklhhcjcecbbaa.M
