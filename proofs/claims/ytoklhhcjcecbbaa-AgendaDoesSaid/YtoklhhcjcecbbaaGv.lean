/- Agenda: the law's does: one call of an agenda beside the document's list. Conditions: the list has no more than 1000 items; the call's numbers are of their kind. -/
import Derived.Test.YtoklhhcjcecbbaaGu
import Derived.StillTailTactics
namespace Go.Proofs.Ytoklhhcjcecbbaa.M
open Go.RowKit Go.Maps Go.Proofs.YtoklhhcjcecbbaaW.PrintWords Go.Proofs.YtoklhhcjcecbbaaW.PrintLast Go.Proofs.YtoklhhcjcecbbaaW.PrintMore
set_option linter.unusedVariables false
set_option linter.unusedSimpArgs false
theorem cell_of_block {w w1 : World} {p : Addr} (h : w1.heap[p.block]? = w.heap[p.block]?) : w1.cell? p = w.cell? p := by unfold World.cell?; rw [h]
theorem add_block (a : Addr) (n : Nat) : (a.add n).block = a.block := by unfold Addr.add; split <;> rfl
theorem lt_of_heap {w : World} {i : Nat} {o : Obj} (h : w.heap[i]? = some o) : i < w.heap.size := (Array.getElem?_eq_some_iff.1 h).1
/-- The document's list, as it lies. -/
structure LR (w : World) (A : Option Addr) (l : List It) : Prop where
  rows : Rows encI 2 w A l
  blk : ∀ ad, A = some ad → ∃ cs, w.heap[ad.block]? = some (.cells cs 32 (0, 0))
section
variable {w w1 : World} {base ab b mb : Nat} {v : Value} {L l l2 : List It} {D : DataW Unit} {A : Option Addr}
theorem LR.bw (h : LR w A l) (hb : Bw w w1) : LR w1 A l := ⟨h.rows.bw hb, fun ad e => by
  obtain ⟨cs, hc⟩ := h.blk ad e
  exact ⟨cs, (hb.block _ (lt_of_heap hc)).trans hc⟩⟩
theorem LR.keep (h : LR w A l) (ha : AgL w base ab b mb v l2) (hc : Chg (PlF b mb v) w w1) : LR w1 A l := by
  obtain ⟨L, k1, _, _⟩ := ha.ex
  obtain ⟨D, hd⟩ := k1.pl
  have key : ∀ ad, A = some ad → w1.heap[ad.block]? = w.heap[ad.block]? := fun ad e => by
    obtain ⟨cs, hcs⟩ := h.blk ad e
    refine hc.block _ (lt_of_heap hcs) ?_
    rintro (e | e | e)
    · have h1 := hd.blk
      unfold Blk at h1
      rw [← e, hcs] at h1
      simp at h1
    · exact own_ne hd.row hcs (by decide) e.symm
    · obtain ⟨es, cl, h1, _⟩ := hd.map
      rw [← e, hcs] at h1
      cases h1
  refine ⟨⟨h.rows.1, fun hn => ?_⟩, fun ad e => ?_⟩
  · obtain ⟨ad, e, hcc⟩ := h.rows.2 hn
    exact ⟨ad, e, fun j x hx i v hv => (cell_of_block (by rw [add_block]; exact key ad e)).trans (hcc j x hx i v hv)⟩
  · obtain ⟨cs, hcs⟩ := h.blk ad e
    exact ⟨cs, (key ad e).trans hcs⟩
theorem LR.own {base : Nat} {u : Value} (h : ownR w base u l) : ∃ A c, u = .slice A l.length c ∧ l.length ≤ c ∧ LR w A l := by
  obtain ⟨A, c, e, hr⟩ := ownR.rows h
  have hc : l.length ≤ c := by
    unfold ownR at h
    rw [e] at h
    exact own_cap' h
  refine ⟨A, c, e, hc, hr, fun ad hA => ?_⟩
  rcases h.2 with ⟨e1, _⟩ | ⟨g', cap', cur, e1, _, hh, _⟩
  · rw [e1] at e
    injection e with e _ _
    rw [hA] at e
    cases e
  · rw [e1] at e
    injection e with e _ _
    rw [hA] at e
    obtain rfl := Option.some.inj e
    exact ⟨cur, hh⟩
/-- What a call of the law comes to. -/
def DoesP (w : World) (base ab b mb : Nat) (v : Value) (l : List It) (e : Ending) (w' : World) : Prop :=
  ∃ (l' : List It) (A : Option Addr) (c : Nat), e = .returned (.tuple #[.slice A l'.length c, .bool true]) ∧ l'.length ≤ l.length + 1 ∧ l'.length ≤ c ∧ LR w' A l' ∧ ∃ v', AgL w' base ab b mb v' l' ∧ AgS b mb v v' w w'
set_option maxHeartbeats 4000000 in
set_option maxRecDepth 100000 in
theorem does_first_nil (h : AgL w base ab b mb v l) (hr : LR w A l) (c : Nat) (hl : l.length ≤ 1000) (hc : l.length ≤ c) (kind due key : Int) (hwd : (Lit.int .i64 due).wf = true) (hwk : (Lit.int .i64 key).wf = true) (q0 : (kind == 0) = false) (q1 : (kind == 1) = false) (q2 : (kind == 2) = false) (q3 : (kind == 3) = false) (q4 : (kind == 4) = false) (hn : l = []) :
    Calls Try.prog 15 #[.pointer (some ⟨ab, 0, none⟩), .slice A l.length c, .agg #[.int .i64 kind, .int .i64 due, .int .i64 key]] w (DoesP w base ab b mb v l) := by
  obtain ⟨w0, hw0⟩ : ∃ w0, w0 = w.alloc (.cells #[.int .i64 kind, .int .i64 due, .int .i64 key] 42) := ⟨_, rfl⟩
  have HB0 := Aside0.mk (show Bw w w0 by rw [hw0]; exact (Bw.refl w).alloc _)
  have HK0 := Aside0.mk (show Blk w0 w.heap.size #[.int .i64 kind, .int .i64 due, .int .i64 key] 42 by rw [hw0]; exact Blk.new w _ _)
  have HWD := Aside0.mk hwd
  have HWK := Aside0.mk hwk
  have OLD := Aside0.mk h.old
  have RA := Aside0.mk (fun W (hW : LR W A l) => refAt_calls A c l key W hW.rows (by omega))
  have H0 := Aside0.mk (h.bw HB0.out)
  have R0 := Aside0.mk (hr.bw HB0.out)
  subst hn
  clear h hr hwd hwk
  go_enter Try.func15, Try.ntmps15
  go_wp2_with fail
  rw [← hw0]
  clear hw0
  refine (RA.out _ R0.out).mono ?_
  rintro e w1 ⟨rfl, hb1⟩
  have HB1 := Aside0.mk (HB0.out.trans hb1)
  have HK1 := Aside0.mk (HK0.out.bw hb1)
  have H1 := Aside0.mk (H0.out.bw hb1)
  have R1 := Aside0.mk (R0.out.bw hb1)
  clear hb1
  have k0 := HK1.out.cell 0 (.int .i64 kind) rfl
  have k1 := HK1.out.cell 1 (.int .i64 due) rfl
  have k2 := HK1.out.cell 2 (.int .i64 key) rfl
  have HF := H1.out.first_nil
  dsimp only [firstV, itV] at HF
  have HF := Aside0.mk HF
  have H2 := Aside0.mk (fun W (hb : Bw w1 W) => H1.out.bw hb)
  go_wp2_with fail
  refine (HF.out).mono ?_
  rintro e w2 ⟨rfl, hb2⟩
  have HB2 := Aside0.mk hb2
  clear hb2
  go_wp2_with fail
  refine (first36_nil A c _).mono ?_
  rintro e w3 ⟨rfl, hb3⟩
  have HB3 := Aside0.mk ((HB2.out.alloc _).trans hb3)
  clear hb3
  go_wp2_with fail
  go_ret2
  exact ⟨[], A, c, rfl, by simp, by simp, R1.out.bw HB3.out, v, H1.out.bw HB3.out, (AgS.refl b mb v w).bw (HB1.out.trans HB3.out)⟩
set_option maxHeartbeats 4000000 in
set_option maxRecDepth 100000 in
theorem does_first_cons (h : AgL w base ab b mb v l) (hr : LR w A l) (c : Nat) (hl : l.length ≤ 1000) (hc : l.length ≤ c) (kind due key : Int) (hwd : (Lit.int .i64 due).wf = true) (hwk : (Lit.int .i64 key).wf = true) (q0 : (kind == 0) = false) (q1 : (kind == 1) = false) (q2 : (kind == 2) = false) (q3 : (kind == 3) = false) (q4 : (kind == 4) = false) (m : It) (t : List It) (hn : l = m :: t) :
    Calls Try.prog 15 #[.pointer (some ⟨ab, 0, none⟩), .slice A l.length c, .agg #[.int .i64 kind, .int .i64 due, .int .i64 key]] w (DoesP w base ab b mb v l) := by
  obtain ⟨w0, hw0⟩ : ∃ w0, w0 = w.alloc (.cells #[.int .i64 kind, .int .i64 due, .int .i64 key] 42) := ⟨_, rfl⟩
  have HB0 := Aside0.mk (show Bw w w0 by rw [hw0]; exact (Bw.refl w).alloc _)
  have HK0 := Aside0.mk (show Blk w0 w.heap.size #[.int .i64 kind, .int .i64 due, .int .i64 key] 42 by rw [hw0]; exact Blk.new w _ _)
  have HWD := Aside0.mk hwd
  have HWK := Aside0.mk hwk
  have OLD := Aside0.mk h.old
  have RA := Aside0.mk (fun W (hW : LR W A l) => refAt_calls A c l key W hW.rows (by omega))
  have H0 := Aside0.mk (h.bw HB0.out)
  have R0 := Aside0.mk (hr.bw HB0.out)
  subst hn
  clear h hr hwd hwk
  go_enter Try.func15, Try.ntmps15
  go_wp2_with fail
  rw [← hw0]
  clear hw0
  refine (RA.out _ R0.out).mono ?_
  rintro e w1 ⟨rfl, hb1⟩
  have HB1 := Aside0.mk (HB0.out.trans hb1)
  have HK1 := Aside0.mk (HK0.out.bw hb1)
  have H1 := Aside0.mk (H0.out.bw hb1)
  have R1 := Aside0.mk (R0.out.bw hb1)
  clear hb1
  have k0 := HK1.out.cell 0 (.int .i64 kind) rfl
  have k1 := HK1.out.cell 1 (.int .i64 due) rfl
  have k2 := HK1.out.cell 2 (.int .i64 key) rfl
  obtain ⟨ma, mk⟩ := m
  have HF := H1.out.first_cons
  dsimp only [firstV, itV] at HF
  have HF := Aside0.mk HF
  have HFI := Aside0.mk (fun W (hW : LR W A ((ma, mk) :: t)) => first36_cons A c _ (ma, mk) t W hW.rows rfl)
  go_wp2_with fail
  refine (HF.out).mono ?_
  rintro e w2 ⟨rfl, hb2⟩
  have HB2 := Aside0.mk hb2
  clear hb2
  go_wp2_with fail
  refine (HFI.out _ (R1.out.bw (HB2.out.alloc _))).mono ?_
  rintro e w3 ⟨rfl, hb3⟩
  have HB3 := Aside0.mk ((HB2.out.alloc _).trans hb3)
  clear hb3
  go_wp2_with fail
  go_ret2
  exact ⟨(ma, mk) :: t, A, c, rfl, by simp, hc, R1.out.bw HB3.out, v, H1.out.bw HB3.out, (AgS.refl b mb v w).bw (HB1.out.trans HB3.out)⟩
set_option maxHeartbeats 4000000 in
set_option maxRecDepth 100000 in
theorem does_pop_nil (h : AgL w base ab b mb v l) (hr : LR w A l) (c : Nat) (hl : l.length ≤ 1000) (hc : l.length ≤ c) (kind due key : Int) (hwd : (Lit.int .i64 due).wf = true) (hwk : (Lit.int .i64 key).wf = true) (q0 : (kind == 0) = false) (q1 : (kind == 1) = true) (hn : l = []) :
    Calls Try.prog 15 #[.pointer (some ⟨ab, 0, none⟩), .slice A l.length c, .agg #[.int .i64 kind, .int .i64 due, .int .i64 key]] w (DoesP w base ab b mb v l) := by
  obtain ⟨w0, hw0⟩ : ∃ w0, w0 = w.alloc (.cells #[.int .i64 kind, .int .i64 due, .int .i64 key] 42) := ⟨_, rfl⟩
  have HB0 := Aside0.mk (show Bw w w0 by rw [hw0]; exact (Bw.refl w).alloc _)
  have HK0 := Aside0.mk (show Blk w0 w.heap.size #[.int .i64 kind, .int .i64 due, .int .i64 key] 42 by rw [hw0]; exact Blk.new w _ _)
  have HWD := Aside0.mk hwd
  have HWK := Aside0.mk hwk
  have OLD := Aside0.mk h.old
  have RA := Aside0.mk (fun W (hW : LR W A l) => refAt_calls A c l key W hW.rows (by omega))
  have H0 := Aside0.mk (h.bw HB0.out)
  have R0 := Aside0.mk (hr.bw HB0.out)
  subst hn
  clear h hr hwd hwk
  go_enter Try.func15, Try.ntmps15
  go_wp2_with fail
  rw [← hw0]
  clear hw0
  refine (RA.out _ R0.out).mono ?_
  rintro e w1 ⟨rfl, hb1⟩
  have HB1 := Aside0.mk (HB0.out.trans hb1)
  have HK1 := Aside0.mk (HK0.out.bw hb1)
  have H1 := Aside0.mk (H0.out.bw hb1)
  have R1 := Aside0.mk (R0.out.bw hb1)
  clear hb1
  have k0 := HK1.out.cell 0 (.int .i64 kind) rfl
  have k1 := HK1.out.cell 1 (.int .i64 due) rfl
  have k2 := HK1.out.cell 2 (.int .i64 key) rfl
  have RD := Aside0.mk (show ∀ W, LR W A ([] : List It) → Calls Try.prog 47 #[.slice A ([] : List It).length c, .int .i64 0] W fun e w' => ∃ u, e = .returned u ∧ w'.ownsRow 0 32 2 u (dropN ([] : List It) 0 0).length ((dropN ([] : List It) 0 0).flatMap encI) ∧ Bw W w' from fun W hW => (refDrop_calls A c ([] : List It) 0 W hW.rows (by first | (simp; done) | (simp at hl ⊢; omega) | omega)).mono fun e w' ⟨u, h1, h2, h3⟩ => ⟨u, h1, own_weaken h2 (Nat.zero_le _), h3⟩)
  have HF := H1.out.pop_nil
  dsimp only [firstV, itV] at HF
  have HF := Aside0.mk HF
  have HFI := Aside0.mk (fun W (hW : LR W A []) => first36_nil A c W)
  go_wp2_with fail
  refine (HF.out).mono ?_
  rintro e w2 ⟨rfl, hb2⟩
  obtain ⟨w2x, hw2⟩ : ∃ w2x, w2x = w2.alloc (.cells #[.int .i64 0, .int .i64 0] 30) := ⟨_, rfl⟩
  have HB2 := Aside0.mk (show Bw w1 w2x by rw [hw2]; exact hb2.alloc _)
  obtain ⟨s0, s1, sf, sl⟩ := two_st (show Blk w2x w2.heap.size #[.int .i64 0, .int .i64 0] 30 by rw [hw2]; exact Blk.new w2 _ _)
  clear hb2
  go_wp2_with fail
  rw [← hw2]
  have HRk := Aside0.mk (R1.out.bw HB2.out.drew)
  have HXk := Aside0.mk HB2.out.drew
  clear hw2 sf sl k0 k1 k2
  go_region_held3 (fun W => W.cell? ⟨w2.heap.size, 0, none⟩ = some (.int .i64 0) ∧ W.cell? ⟨w2.heap.size, 1, none⟩ = some (.int .i64 0)) (exact ⟨s0, s1⟩) ((first | (go_at_call 47; refine (RD.out _ HRk.out).mono ?_; rintro e w3 ⟨u, rfl, hu, hb3⟩; have HRk := Aside0.mk (HRk.out.bw hb3); have HXk := Aside0.mk (HXk.out.trans hb3); have s0 := hb3.kept s0; have s1 := hb3.kept s1; (try (have HNk := Aside0.mk (pw_own_below HNk.out hb3))); clear hb3; have HNk := Aside0.mk hu; clear hu) | (go_at_call 48; refine (HFI.out _ HRk.out).mono ?_; rintro e w3 ⟨rfl, hb3⟩; have HRk := Aside0.mk (HRk.out.bw hb3); have HXk := Aside0.mk (HXk.out.trans hb3); have s0 := hb3.kept s0; have s1 := hb3.kept s1; (try (have HNk := Aside0.mk (pw_own_below HNk.out hb3))); clear hb3)))
  all_goals go_wp2_with fail
  all_goals go_ret2
  all_goals
    obtain ⟨A', c', rfl, hcc, hLR⟩ := LR.own HNk.out
    refine ⟨[], A', c', rfl, by simp, hcc, hLR, v, H1.out.bw HXk.out, (AgS.refl b mb v w).bw (HB1.out.trans HXk.out)⟩
set_option maxHeartbeats 4000000 in
set_option maxRecDepth 100000 in
theorem does_pop_cons (h : AgL w base ab b mb v l) (hr : LR w A l) (c : Nat) (hl : l.length ≤ 1000) (hc : l.length ≤ c) (kind due key : Int) (hwd : (Lit.int .i64 due).wf = true) (hwk : (Lit.int .i64 key).wf = true) (q0 : (kind == 0) = false) (q1 : (kind == 1) = true) (m : It) (t : List It) (hn : l = m :: t) :
    Calls Try.prog 15 #[.pointer (some ⟨ab, 0, none⟩), .slice A l.length c, .agg #[.int .i64 kind, .int .i64 due, .int .i64 key]] w (DoesP w base ab b mb v l) := by
  obtain ⟨w0, hw0⟩ : ∃ w0, w0 = w.alloc (.cells #[.int .i64 kind, .int .i64 due, .int .i64 key] 42) := ⟨_, rfl⟩
  have HB0 := Aside0.mk (show Bw w w0 by rw [hw0]; exact (Bw.refl w).alloc _)
  have HK0 := Aside0.mk (show Blk w0 w.heap.size #[.int .i64 kind, .int .i64 due, .int .i64 key] 42 by rw [hw0]; exact Blk.new w _ _)
  have HWD := Aside0.mk hwd
  have HWK := Aside0.mk hwk
  have OLD := Aside0.mk h.old
  have RA := Aside0.mk (fun W (hW : LR W A l) => refAt_calls A c l key W hW.rows (by omega))
  have H0 := Aside0.mk (h.bw HB0.out)
  have R0 := Aside0.mk (hr.bw HB0.out)
  subst hn
  clear h hr hwd hwk
  go_enter Try.func15, Try.ntmps15
  go_wp2_with fail
  rw [← hw0]
  clear hw0
  refine (RA.out _ R0.out).mono ?_
  rintro e w1 ⟨rfl, hb1⟩
  have HB1 := Aside0.mk (HB0.out.trans hb1)
  have HK1 := Aside0.mk (HK0.out.bw hb1)
  have H1 := Aside0.mk (H0.out.bw hb1)
  have R1 := Aside0.mk (R0.out.bw hb1)
  clear hb1
  have k0 := HK1.out.cell 0 (.int .i64 kind) rfl
  have k1 := HK1.out.cell 1 (.int .i64 due) rfl
  have k2 := HK1.out.cell 2 (.int .i64 key) rfl
  have RD := Aside0.mk (show ∀ W, LR W A (m :: t) → Calls Try.prog 47 #[.slice A (m :: t).length c, .int .i64 0] W fun e w' => ∃ u, e = .returned u ∧ w'.ownsRow 0 32 2 u (t).length ((t).flatMap encI) ∧ Bw W w' from fun W hW => (refDrop_calls A c (m :: t) 0 W hW.rows (by first | (simp; done) | (simp at hl ⊢; omega) | omega)).mono fun e w' ⟨u, h1, h2, h3⟩ => ⟨u, h1, by rw [dropN_head] at h2; exact own_weaken h2 (Nat.zero_le _), h3⟩)
  obtain ⟨ma, mk⟩ := m
  have HF := H1.out.pop_cons
  dsimp only [firstV, itV] at HF
  have HF := Aside0.mk HF
  have HFI := Aside0.mk (fun W (hW : LR W A ((ma, mk) :: t)) => first36_cons A c _ (ma, mk) t W hW.rows rfl)
  go_wp2_with fail
  refine HF.out.mono ?_
  rintro e w2 ⟨rfl, v2, h2, n2, c2⟩
  have R2 := Aside0.mk (R1.out.keep H1.out c2)
  have A2 := Aside0.mk h2
  have S2 := Aside0.mk (show AgS b mb v v2 w w2 from ⟨(Chg.of_bw HB1.out).trans c2, .inl n2⟩)
  obtain ⟨w2x, hw2⟩ : ∃ w2x, w2x = w2.alloc (.cells #[.int .i64 ma, .int .i64 mk] 30) := ⟨_, rfl⟩
  have HB2 := Aside0.mk (show Bw w2 w2x by rw [hw2]; exact (Bw.refl w2).alloc _)
  obtain ⟨s0, s1, sf, sl⟩ := two_st (show Blk w2x w2.heap.size #[.int .i64 ma, .int .i64 mk] 30 by rw [hw2]; exact Blk.new w2 _ _)
  clear h2 n2 c2
  go_wp2_with fail
  rw [← hw2]
  have HRk := Aside0.mk (R2.out.bw HB2.out.drew)
  have HXk := Aside0.mk HB2.out.drew
  clear hw2 sf sl k0 k1 k2
  go_region_held3 (fun W => W.cell? ⟨w2.heap.size, 0, none⟩ = some (.int .i64 ma) ∧ W.cell? ⟨w2.heap.size, 1, none⟩ = some (.int .i64 mk)) (exact ⟨s0, s1⟩) ((first | (go_at_call 47; refine (RD.out _ HRk.out).mono ?_; rintro e w3 ⟨u, rfl, hu, hb3⟩; have HRk := Aside0.mk (HRk.out.bw hb3); have HXk := Aside0.mk (HXk.out.trans hb3); have s0 := hb3.kept s0; have s1 := hb3.kept s1; (try (have HNk := Aside0.mk (pw_own_below HNk.out hb3))); clear hb3; have HNk := Aside0.mk hu; clear hu) | (go_at_call 48; refine (HFI.out _ HRk.out).mono ?_; rintro e w3 ⟨rfl, hb3⟩; have HRk := Aside0.mk (HRk.out.bw hb3); have HXk := Aside0.mk (HXk.out.trans hb3); have s0 := hb3.kept s0; have s1 := hb3.kept s1; (try (have HNk := Aside0.mk (pw_own_below HNk.out hb3))); clear hb3)))
  all_goals go_wp2_with fail
  all_goals go_ret2
  all_goals
    obtain ⟨A', c', rfl, hcc, hLR⟩ := LR.own HNk.out
    refine ⟨t, A', c', rfl, by simp; omega, hcc, hLR, v2, A2.out.bw HXk.out, S2.out.bw HXk.out⟩
set_option maxHeartbeats 4000000 in
set_option maxRecDepth 100000 in
theorem does_put_old (h : AgL w base ab b mb v l) (hr : LR w A l) (c : Nat) (hl : l.length ≤ 1000) (hc : l.length ≤ c) (kind due key : Int) (hwd : (Lit.int .i64 due).wf = true) (hwk : (Lit.int .i64 key).wf = true) (q0 : (kind == 0) = true) (hk : hasK l key = true) :
    Calls Try.prog 15 #[.pointer (some ⟨ab, 0, none⟩), .slice A l.length c, .agg #[.int .i64 kind, .int .i64 due, .int .i64 key]] w (DoesP w base ab b mb v l) := by
  obtain ⟨w0, hw0⟩ : ∃ w0, w0 = w.alloc (.cells #[.int .i64 kind, .int .i64 due, .int .i64 key] 42) := ⟨_, rfl⟩
  have HB0 := Aside0.mk (show Bw w w0 by rw [hw0]; exact (Bw.refl w).alloc _)
  have HK0 := Aside0.mk (show Blk w0 w.heap.size #[.int .i64 kind, .int .i64 due, .int .i64 key] 42 by rw [hw0]; exact Blk.new w _ _)
  have HWD := Aside0.mk hwd
  have HWK := Aside0.mk hwk
  have OLD := Aside0.mk h.old
  have RA := Aside0.mk (fun W (hW : LR W A l) => refAt_calls A c l key W hW.rows (by omega))
  have H0 := Aside0.mk (h.bw HB0.out)
  have R0 := Aside0.mk (hr.bw HB0.out)
  
  have RAT := Aside0.mk (show atL l key = (keyAt l key : Int) by unfold atL; rw [hk]; rfl)
  obtain ⟨pk, hpk⟩ : ∃ pk : Int, pk = (keyAt l key : Int) := ⟨_, rfl⟩
  have hg0 : decide ((0 : Int) ≤ pk) = true := decide_eq_true (by omega)
  have hg1 : decide (pk < 0) = false := decide_eq_false (by omega)
  rw [RAT.out, ← hpk] at RA
  have HPK := Aside0.mk hpk
  clear h hr hwd hwk hpk RAT
  go_enter Try.func15, Try.ntmps15
  go_wp2_with fail
  rw [← hw0]
  clear hw0
  refine (RA.out _ R0.out).mono ?_
  rintro e w1 ⟨rfl, hb1⟩
  have HB1 := Aside0.mk (HB0.out.trans hb1)
  have HK1 := Aside0.mk (HK0.out.bw hb1)
  have H1 := Aside0.mk (H0.out.bw hb1)
  have R1 := Aside0.mk (R0.out.bw hb1)
  clear hb1
  have k0 := HK1.out.cell 0 (.int .i64 kind) rfl
  have k1 := HK1.out.cell 1 (.int .i64 due) rfl
  have k2 := HK1.out.cell 2 (.int .i64 key) rfl
  have HP := Aside0.mk (H1.out.put_old (due, key) ⟨HWD.out, HWK.out⟩ (by omega) hk)
  go_wp2_with fail
  refine HP.out.mono ?_
  rintro e w2 ⟨rfl, v2, h2, s2⟩
  have R2 := Aside0.mk (R1.out.keep H1.out s2.chg)
  have A2 := Aside0.mk h2
  have S2 := Aside0.mk (((AgS.refl b mb v w).bw HB1.out).trans s2)
  clear h2 s2
  go_wp2_with fail
  go_ret2
  exact ⟨l, A, c, rfl, by omega, hc, R2.out, v2, A2.out, S2.out⟩
set_option maxHeartbeats 4000000 in
set_option maxRecDepth 100000 in
theorem does_drop_miss (h : AgL w base ab b mb v l) (hr : LR w A l) (c : Nat) (hl : l.length ≤ 1000) (hc : l.length ≤ c) (kind due key : Int) (hwd : (Lit.int .i64 due).wf = true) (hwk : (Lit.int .i64 key).wf = true) (q0 : (kind == 0) = false) (q1 : (kind == 1) = false) (q2 : (kind == 2) = true) (hk : hasK l key = false) :
    Calls Try.prog 15 #[.pointer (some ⟨ab, 0, none⟩), .slice A l.length c, .agg #[.int .i64 kind, .int .i64 due, .int .i64 key]] w (DoesP w base ab b mb v l) := by
  obtain ⟨w0, hw0⟩ : ∃ w0, w0 = w.alloc (.cells #[.int .i64 kind, .int .i64 due, .int .i64 key] 42) := ⟨_, rfl⟩
  have HB0 := Aside0.mk (show Bw w w0 by rw [hw0]; exact (Bw.refl w).alloc _)
  have HK0 := Aside0.mk (show Blk w0 w.heap.size #[.int .i64 kind, .int .i64 due, .int .i64 key] 42 by rw [hw0]; exact Blk.new w _ _)
  have HWD := Aside0.mk hwd
  have HWK := Aside0.mk hwk
  have OLD := Aside0.mk h.old
  have RA := Aside0.mk (fun W (hW : LR W A l) => refAt_calls A c l key W hW.rows (by omega))
  have H0 := Aside0.mk (h.bw HB0.out)
  have R0 := Aside0.mk (hr.bw HB0.out)
  
  have RAT := Aside0.mk (show atL l key = -1 by unfold atL; rw [hk]; rfl)
  rw [RAT.out] at RA
  clear h hr hwd hwk
  go_enter Try.func15, Try.ntmps15
  go_wp2_with fail
  rw [← hw0]
  clear hw0
  refine (RA.out _ R0.out).mono ?_
  rintro e w1 ⟨rfl, hb1⟩
  have HB1 := Aside0.mk (HB0.out.trans hb1)
  have HK1 := Aside0.mk (HK0.out.bw hb1)
  have H1 := Aside0.mk (H0.out.bw hb1)
  have R1 := Aside0.mk (R0.out.bw hb1)
  clear hb1
  have k0 := HK1.out.cell 0 (.int .i64 kind) rfl
  have k1 := HK1.out.cell 1 (.int .i64 due) rfl
  have k2 := HK1.out.cell 2 (.int .i64 key) rfl
  have RD := Aside0.mk (show ∀ W, LR W A l → Calls Try.prog 47 #[.slice A l.length c, .int .i64 (-1)] W fun e w' => ∃ u, e = .returned u ∧ w'.ownsRow 0 32 2 u (l).length ((l).flatMap encI) ∧ Bw W w' from fun W hW => (refDrop_calls A c l (-1) W hW.rows (by first | (simp; done) | (simp at hl ⊢; omega) | omega)).mono fun e w' ⟨u, h1, h2, h3⟩ => ⟨u, h1, by rw [dropN_lo l 0 (-1) (by decide)] at h2; exact own_weaken h2 (Nat.zero_le _), h3⟩)
  have HP := Aside0.mk (fun W (hW : AgL W base ab b mb v l) => hW.drop_miss key HWK.out hk)
  obtain ⟨s1, s2⟩ := And.intro k1 k2
  go_wp2_with fail
  have HRk := Aside0.mk (R1.out.bw (Bw.refl w1).drew)
  have HAk := Aside0.mk (H1.out.bw (Bw.refl w1).drew)
  have HBk := Aside0.mk (HK1.out.bw (Bw.refl w1).drew)
  have HSk := Aside0.mk ((AgS.refl b mb v w).bw HB1.out.drew)
  clear k0 k1 k2 hk
  go_region_held3 (fun W => W.cell? ⟨w.heap.size, 1, none⟩ = some (.int .i64 due) ∧ W.cell? ⟨w.heap.size, 2, none⟩ = some (.int .i64 key)) (exact ⟨s1, s2⟩) ((first | (go_at_call 47; refine (RD.out _ HRk.out).mono ?_; rintro e w3 ⟨u, rfl, hu, hb3⟩; have HNk := Aside0.mk hu; have HRk := Aside0.mk (HRk.out.bw hb3); have HAk := Aside0.mk (HAk.out.bw hb3); have HSk := Aside0.mk (HSk.out.bw hb3); have HBk := Aside0.mk (HBk.out.bw hb3); have s1 := HBk.out.cell 1 (.int .i64 due) rfl; have s2 := HBk.out.cell 2 (.int .i64 key) rfl; clear hu hb3) | (go_at_call 20; refine (HP.out _ HAk.out).mono ?_; rintro e w3 ⟨rfl, hb3⟩; (try (have HNk := Aside0.mk (pw_own_below HNk.out hb3))); have HRk := Aside0.mk (HRk.out.bw hb3); have HAk := Aside0.mk (HAk.out.bw hb3); have HSk := Aside0.mk (HSk.out.bw hb3); have HBk := Aside0.mk (HBk.out.bw hb3); have s1 := HBk.out.cell 1 (.int .i64 due) rfl; have s2 := HBk.out.cell 2 (.int .i64 key) rfl; clear hb3)))
  all_goals go_wp2_with fail
  all_goals go_ret2
  all_goals
    obtain ⟨A', c', rfl, hcc, hLR⟩ := LR.own HNk.out
    refine ⟨l, A', c', rfl, by omega, hcc, hLR, _, HAk.out, HSk.out⟩
set_option maxHeartbeats 4000000 in
set_option maxRecDepth 100000 in
theorem does_drop_hit (h : AgL w base ab b mb v l) (hr : LR w A l) (c : Nat) (hl : l.length ≤ 1000) (hc : l.length ≤ c) (kind due key : Int) (hwd : (Lit.int .i64 due).wf = true) (hwk : (Lit.int .i64 key).wf = true) (q0 : (kind == 0) = false) (q1 : (kind == 1) = false) (q2 : (kind == 2) = true) (hk : hasK l key = true) :
    Calls Try.prog 15 #[.pointer (some ⟨ab, 0, none⟩), .slice A l.length c, .agg #[.int .i64 kind, .int .i64 due, .int .i64 key]] w (DoesP w base ab b mb v l) := by
  obtain ⟨w0, hw0⟩ : ∃ w0, w0 = w.alloc (.cells #[.int .i64 kind, .int .i64 due, .int .i64 key] 42) := ⟨_, rfl⟩
  have HB0 := Aside0.mk (show Bw w w0 by rw [hw0]; exact (Bw.refl w).alloc _)
  have HK0 := Aside0.mk (show Blk w0 w.heap.size #[.int .i64 kind, .int .i64 due, .int .i64 key] 42 by rw [hw0]; exact Blk.new w _ _)
  have HWD := Aside0.mk hwd
  have HWK := Aside0.mk hwk
  have OLD := Aside0.mk h.old
  have RA := Aside0.mk (fun W (hW : LR W A l) => refAt_calls A c l key W hW.rows (by omega))
  have H0 := Aside0.mk (h.bw HB0.out)
  have R0 := Aside0.mk (hr.bw HB0.out)
  
  have RAT := Aside0.mk (show atL l key = (keyAt l key : Int) by unfold atL; rw [hk]; rfl)
  obtain ⟨pk, hpk⟩ : ∃ pk : Int, pk = (keyAt l key : Int) := ⟨_, rfl⟩
  have hg0 : decide ((0 : Int) ≤ pk) = true := decide_eq_true (by omega)
  have hg1 : decide (pk < 0) = false := decide_eq_false (by omega)
  rw [RAT.out, ← hpk] at RA
  have HPK := Aside0.mk hpk
  clear h hr hwd hwk hpk RAT
  go_enter Try.func15, Try.ntmps15
  go_wp2_with fail
  rw [← hw0]
  clear hw0
  refine (RA.out _ R0.out).mono ?_
  rintro e w1 ⟨rfl, hb1⟩
  have HB1 := Aside0.mk (HB0.out.trans hb1)
  have HK1 := Aside0.mk (HK0.out.bw hb1)
  have H1 := Aside0.mk (H0.out.bw hb1)
  have R1 := Aside0.mk (R0.out.bw hb1)
  clear hb1
  have k0 := HK1.out.cell 0 (.int .i64 kind) rfl
  have k1 := HK1.out.cell 1 (.int .i64 due) rfl
  have k2 := HK1.out.cell 2 (.int .i64 key) rfl
  have RD := Aside0.mk (show ∀ W, LR W A l → Calls Try.prog 47 #[.slice A l.length c, .int .i64 pk] W fun e w' => ∃ u, e = .returned u ∧ w'.ownsRow 0 32 2 u (dropN l 0 pk).length ((dropN l 0 pk).flatMap encI) ∧ Bw W w' from fun W hW => (refDrop_calls A c l pk W hW.rows (by first | (simp; done) | (simp at hl ⊢; omega) | omega)).mono fun e w' ⟨u, h1, h2, h3⟩ => ⟨u, h1, own_weaken h2 (Nat.zero_le _), h3⟩)
  have HP := Aside0.mk (fun W (hW : AgL W base ab b mb v l) => hW.drop_hit key HWK.out hk)
  rw [← HPK.out] at HP
  have hln := Aside0.mk (dropN_sub l 0 pk).length_le
  obtain ⟨s1, s2⟩ := And.intro k1 k2
  generalize dropN l 0 pk = T at RD HP hln
  go_wp2_with fail
  have HRk := Aside0.mk (R1.out.bw (Bw.refl w1).drew)
  have HAk := Aside0.mk (H1.out.bw (Bw.refl w1).drew)
  have HBk := Aside0.mk (HK1.out.bw (Bw.refl w1).drew)
  have HSk := Aside0.mk ((AgS.refl b mb v w).bw HB1.out.drew)
  clear k0 k1 k2 hk
  go_region_held3 (fun W => W.cell? ⟨w.heap.size, 1, none⟩ = some (.int .i64 due) ∧ W.cell? ⟨w.heap.size, 2, none⟩ = some (.int .i64 key)) (exact ⟨s1, s2⟩) ((first | (go_at_call 47; refine (RD.out _ HRk.out).mono ?_; rintro e w3 ⟨u, rfl, hu, hb3⟩; have HNk := Aside0.mk hu; have HRk := Aside0.mk (HRk.out.bw hb3); have HAk := Aside0.mk (HAk.out.bw hb3); have HSk := Aside0.mk (HSk.out.bw hb3); have HBk := Aside0.mk (HBk.out.bw hb3); have s1 := HBk.out.cell 1 (.int .i64 due) rfl; have s2 := HBk.out.cell 2 (.int .i64 key) rfl; clear hu hb3) | (go_at_call 20; refine (HP.out _ HAk.out).mono ?_; rintro e w3 ⟨rfl, v2, h2, n2, cc⟩; have ss : AgS b mb v v2 _ w3 := ⟨cc, .inl n2⟩; have HRk := Aside0.mk (HRk.out.keep HAk.out cc); (try (have HNk := Aside0.mk (HAk.out.keepR HNk.out cc))); have HBk := Aside0.mk (HBk.out.of_block (cc.block _ HBk.out.lt (fun e => absurd (OLD.out _ e) (Nat.lt_irrefl _)))); have s1 := HBk.out.cell 1 (.int .i64 due) rfl; have s2 := HBk.out.cell 2 (.int .i64 key) rfl; have HSk := Aside0.mk (HSk.out.trans ss); have HAk := Aside0.mk h2; clear h2 cc ss)))
  all_goals go_wp2_with fail
  all_goals go_ret2
  all_goals
    obtain ⟨A', c', rfl, hcc, hLR⟩ := LR.own HNk.out
    refine ⟨T, A', c', rfl, by have := hln.out; omega, hcc, hLR, _, HAk.out, HSk.out⟩
end
end Go.Proofs.Ytoklhhcjcecbbaa.M
