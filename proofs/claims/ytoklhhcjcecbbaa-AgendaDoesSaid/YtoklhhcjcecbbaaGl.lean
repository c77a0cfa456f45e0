/- Agenda: First, Pop, Put, place. Conditions: as in the texts before. -/
import Derived.Test.YtoklhhcjcecbbaaGk
import Derived.StillTailTactics
import Derived.Maps.OwnIn
namespace Go.Proofs.Ytoklhhcjcecbbaa.M
open Go.RowKit Go.Maps Go.Proofs.YtoklhhcjcecbbaaW.PrintWords Go.Proofs.YtoklhhcjcecbbaaW.PrintLast Go.Proofs.YtoklhhcjcecbbaaW.PrintMore
set_option linter.unusedVariables false
set_option linter.unusedSimpArgs false
def hasK (L : List It) (k : Int) : Bool := L.any (fun x => x.2 == k)
def keyAt (L : List It) (k : Int) : Nat := L.findIdx (fun x => x.2 == k)
theorem keyAt_some {L : List It} {k : Int} (h : hasK L k = true) : ∃ x, L[keyAt L k]? = some x ∧ x.2 = k := by
  have hlt : keyAt L k < L.length := by
    unfold keyAt
    rw [List.findIdx_lt_length]
    exact List.any_eq_true.1 h
  refine ⟨L[keyAt L k], List.getElem?_eq_getElem hlt, ?_⟩
  have := List.findIdx_getElem (xs := L) (p := fun x : It => x.2 == k) (w := hlt)
  exact eq_of_beq this
theorem hasK_false {L : List It} {k : Int} (h : hasK L k = false) : ∀ z ∈ L, z.2 ≠ k := fun z hz e => by
  have := List.any_eq_false.1 h z hz
  simp [e] at this
section
variable {w w1 : World} {base ab b mb : Nat} {v : Value} {L : List It} {D : DataW Unit}
theorem look_ag (h : isMi w mb L.length D) (hp : Pl D L) (k : Int) (hk : (Lit.int .i64 k).wf = true) :
    (Instr.lookup 87 (.map (some mb)) (Value.int .i64 k) true).run Try.prog w = .ok (.tuple #[.int .i64 (if hasK L k then (keyAt L k : Int) else 0), .bool (hasK L k)]) w := by
  obtain ⟨v, ps, hrun, hv⟩ := h.look_ok lawI und_mi (zeroII w) (plainElem_int (H := Unit) (e := 3) (q := .i64) (a := 0) Try.underlying3 (by decide)) (keyOf_int_mk Try.underlying3 hk)
  obtain ⟨c, rfl, hc, hwc⟩ := plainElem_int_inv Try.underlying3 hv
  rw [hrun, hp.has_ k hk]
  have hh := hp.has_ k hk
  cases hhk : hasK L k
  · unfold hasK at hhk
    rw [hhk] at hh
    rw [atKey_of_not_has hh] at hc
    have hc := (Lit.int.inj (DataW.lit.inj (Prod.mk.inj hc).1)).2
    rw [hhk, ← hc]
    rfl
  · obtain ⟨x, hx, hxk⟩ := keyAt_some hhk
    have h1 := hp.at_ _ x hx
    rw [hxk, ] at h1
    rw [h1] at hc
    have hc := (Lit.int.inj (DataW.lit.inj (Prod.mk.inj hc).1)).2
    unfold hasK at hhk
    rw [hhk, ← hc]
    rfl
theorem IsAg.ne (h : IsAg w base ab b mb v L) : ab ≠ b ∧ ab ≠ mb ∧ v.ownBlock ≠ some ab := by
  obtain ⟨D, hd⟩ := h.pl
  refine ⟨fun e => ?_, fun e => ?_, fun e => own_ne (t := 91) hd.row h.blk (by decide) e.symm⟩
  · have h1 := h.blk
    have h2 := hd.blk
    unfold Blk at h1 h2
    rw [e, h2] at h1
    simp at h1
  · obtain ⟨es, cl, h2, _⟩ := hd.map
    have h1 := h.blk
    unfold Blk at h1
    rw [e, h2] at h1
    cases h1
/-- A step of an agenda's life. -/
structure AgS (b mb : Nat) (v v' : Value) (w w' : World) : Prop where
  chg : Chg (PlF b mb v) w w'
  row : NewRow w v v'
theorem AgS.refl (b mb : Nat) (v : Value) (w : World) : AgS b mb v v w w := ⟨Chg.refl _ _, .inl rfl⟩
theorem AgS.trans {v1 v2 v3 : Value} {a c d : World} (h : AgS b mb v1 v2 a c) (k : AgS b mb v2 v3 c d) : AgS b mb v1 v3 a d := by
  refine ⟨Chg.after h.chg k.chg fun i hi hj => ?_, ?_⟩
  · rcases hj with hj | hj | hj
    · exact .inl hj
    · rcases h.row with e | ⟨q, e, hq⟩
      · exact .inr (.inl (e ▸ hj))
      · have : q = i := Option.some.inj (e.symm.trans hj)
        omega
    · exact .inr (.inr hj)
  · rcases k.row with e | ⟨q, e, hq⟩
    · rcases h.row with e2 | ⟨q, e2, hq⟩
      · exact .inl (e.trans e2)
      · exact .inr ⟨q, e.trans e2, hq⟩
    · exact .inr ⟨q, e, Nat.le_trans h.chg.size hq⟩
theorem AgS.bw {v1 v2 : Value} {a c d : World} (h : AgS b mb v1 v2 a c) (k : Bw c d) : AgS b mb v1 v2 a d := ⟨h.chg.trans (Chg.of_bw k), h.row⟩
theorem IsAg.step {v' : Value} {L' : List It} (h : IsAg w base ab b mb v L) (hc : Chg (PlF b mb v) w w1) (hp : IsPl w1 base b mb v' L') : IsAg w1 base ab b mb v' L' := by
  obtain ⟨n1, n2, n3⟩ := h.ne
  refine ⟨h.le, h.blk.of_block (hc.block _ h.blk.lt ?_), hp⟩
  rintro (e | e | e)
  · exact n1 e
  · exact n3 e
  · exact n2 e
theorem IsAg.keep {S : Nat → Prop} (h : IsAg w base ab b mb v L) (hc : Chg S w w1) (h1 : ¬ S ab) (h2 : ∀ i, PlF b mb v i → ¬ S i) : IsAg w1 base ab b mb v L := by
  obtain ⟨D, hd⟩ := h.pl
  refine ⟨h.le, h.blk.of_block (hc.block _ h.blk.lt h1), D, hd.le, hd.blk.of_block (hc.block _ hd.blk.lt (h2 _ (.inl rfl))), own_of_block hd.row fun g hg => hc.block g (own_lt hd.row g hg) (h2 _ (.inr (.inl hg))), ?_, hd.pl, hd.wf, hd.nd, hd.small⟩
  have hm := hc.block mb hd.map.lt (h2 _ (.inr (.inr rfl)))
  obtain ⟨es, clock, hb, r⟩ := hd.map
  exact ⟨es, clock, hm.trans hb, r⟩
theorem IsAg.lt (h : IsAg w base ab b mb v L) : base ≤ w.heap.size := Nat.le_trans h.le (Nat.le_of_lt h.blk.lt)
set_option maxHeartbeats 1000000 in
theorem agFirst_calls (h : IsAg w base ab b mb v L) (x : It) (hx : L[0]? = some x) : Calls Try.prog 19 #[.pointer (some ⟨ab, 0, none⟩)] w fun e w' => e = .returned (firstV x true) ∧ Bw w w' := by
  obtain ⟨w0, hw0⟩ : ∃ w0, w0 = w.alloc (.cells #[.int .i64 0, .int .i64 0] 30) := ⟨_, rfl⟩
  have HB0 := Aside0.mk (show Bw w w0 by rw [hw0]; exact (Bw.refl w).alloc _)
  have HK0 := Aside0.mk (show Blk w0 w.heap.size #[.int .i64 0, .int .i64 0] 30 by rw [hw0]; exact Blk.new w _ _)
  have hlt := (List.getElem?_eq_some_iff.1 hx).1
  have h0 := h.bw HB0.out
  have HL := Aside0.mk (agLen_calls h0)
  have hq : (((L.length : Int)) == 0) = false := by rw [beq_eq_false_iff_ne]; omega
  have hq1 : (0 : Int) < L.length := by omega
  have H0 := Aside0.mk h0
  have HX := Aside0.mk hx
  clear h h0 hx
  go_enter Try.func19, Try.ntmps19
  go_wp2_with fail
  rw [← hw0]
  refine (HL.out).mono ?_
  rintro e w1 ⟨rfl, hb1⟩
  have h1 := H0.out.bw hb1
  have HB1 := Aside0.mk (HB0.out.trans hb1)
  have HK1 := Aside0.mk (HK0.out.bw hb1)
  obtain ⟨a0, a1, af, al⟩ := two_st HK1.out
  have d0 := h1.blk.cell 0 (.pointer (some ⟨b, 0, none⟩)) rfl
  obtain ⟨D, hd⟩ := h1.pl
  have d1 := hd.cells.1
  obtain ⟨g, cap, hv, x0, x1, xf, xl⟩ := hd.rowAt HX.out
  subst hv
  obtain ⟨xa, xb⟩ := x
  clear hb1 h1 hd
  go_wp2_with fail
  refine bodyPost_ret (res_first rfl rfl ((HK1.out.set 0 (.int .i64 xa)).set 1 (.int .i64 xb))) rfl ⟨rfl, (HB1.out.setCell (Nat.le_refl _) _).setCell (Nat.le_refl _) _⟩
theorem agFirst_empty (h : IsAg w base ab b mb v []) : Calls Try.prog 19 #[.pointer (some ⟨ab, 0, none⟩)] w fun e w' => e = .returned (firstV (0, 0) false) ∧ Bw w w' := by
  obtain ⟨w0, hw0⟩ : ∃ w0, w0 = w.alloc (.cells #[.int .i64 0, .int .i64 0] 30) := ⟨_, rfl⟩
  have HB0 := Aside0.mk (show Bw w w0 by rw [hw0]; exact (Bw.refl w).alloc _)
  have HK0 := Aside0.mk (show Blk w0 w.heap.size #[.int .i64 0, .int .i64 0] 30 by rw [hw0]; exact Blk.new w _ _)
  have HL := Aside0.mk (agLen_calls (h.bw HB0.out))
  clear h
  go_enter Try.func19, Try.ntmps19
  go_wp2_with fail
  rw [← hw0]
  refine (HL.out).mono ?_
  rintro e w1 ⟨rfl, hb1⟩
  obtain ⟨a0, a1, af, al⟩ := two_st (HK0.out.bw hb1)
  have HB1 := Aside0.mk (HB0.out.trans hb1)
  have HK1 := Aside0.mk (HK0.out.bw hb1)
  clear hb1
  go_wp2_with fail
  refine bodyPost_ret (res_first rfl rfl ((HK1.out.set 0 (.int .i64 0)).set 1 (.int .i64 0))) rfl ⟨rfl, (HB1.out.setCell (Nat.le_refl _) _).setCell (Nat.le_refl _) _⟩
theorem agPlace_nil (w : World) (k : Int) : Calls Try.prog 52 #[.pointer none, .int .i64 k] w fun e w' => e = .returned (.tuple #[.int .i64 0, .bool false]) ∧ Bw w w' := by
  have HB := Aside0.mk (Bw.refl w)
  go_enter Try.func52, Try.ntmps52
  go_wp2_with fail
  go_ret2
  exact ⟨rfl, HB.out⟩
set_option maxHeartbeats 1000000 in
set_option maxRecDepth 100000 in
theorem agPlace_calls (h : IsAg w base ab b mb v L) (k : Int) (hk : (Lit.int .i64 k).wf = true) : Calls Try.prog 52 #[.pointer (some ⟨ab, 0, none⟩), .int .i64 k] w fun e w' => e = .returned (.tuple #[.int .i64 (if hasK L k then (keyAt L k : Int) else 0), .bool (hasK L k)]) ∧ Bw w w' := by
  have HB := Aside0.mk (Bw.refl w)
  have d0 := h.blk.cell 0 (.pointer (some ⟨b, 0, none⟩)) rfl
  obtain ⟨D, hd⟩ := h.pl
  have d1 := hd.cells.2.1
  have hl := look_ag hd.map hd.pl k hk
  generalize (if hasK L k then (keyAt L k : Int) else 0) = c at hl ⊢
  generalize hasK L k = is at hl ⊢
  clear h hd
  go_enter Try.func52, Try.ntmps52
  go_wp2_with fail
  go_ret2
  exact ⟨rfl, HB.out⟩
theorem res_pop {W : World} {c : Nat} {T : TypeId} {x y : Int} {ok : Bool} {tmps : Array Value} (h2 : tmps[2]?.getD undef = .pointer (some ⟨c, 0, none⟩)) (h3 : tmps[3]?.getD undef = .bool ok) (h : Blk W c #[.int .i64 x, .int .i64 y] T) :
    (results Try.f12 tmps).run Try.prog W = .ok (firstV (x, y) ok) W := by
  have c0 := h.cell 0 (.int .i64 x) rfl
  have c1 := h.cell 1 (.int .i64 y) rfl
  simp [results, Try.results12, h2, h3, c0, c1, go_sem, firstV]
set_option maxHeartbeats 1000000 in
set_option maxRecDepth 100000 in
theorem agPop_empty (h : IsAg w base ab b mb v []) : Calls Try.prog 12 #[.pointer (some ⟨ab, 0, none⟩)] w fun e w' => e = .returned (firstV (0, 0) false) ∧ Bw w w' := by
  obtain ⟨w0, hw0⟩ : ∃ w0, w0 = w.alloc (.cells #[.int .i64 0, .int .i64 0] 30) := ⟨_, rfl⟩
  have HB0 := Aside0.mk (show Bw w w0 by rw [hw0]; exact (Bw.refl w).alloc _)
  have HK0 := Aside0.mk (show Blk w0 w.heap.size #[.int .i64 0, .int .i64 0] 30 by rw [hw0]; exact Blk.new w _ _)
  have HL := agFirst_empty (h.bw HB0.out)
  dsimp only [firstV, itV] at HL
  have HL := Aside0.mk HL
  clear h
  go_enter Try.func12, Try.ntmps12
  go_wp2_with fail
  rw [← hw0]
  refine (HL.out).mono ?_
  rintro e w1 ⟨rfl, hb1⟩
  have HB1 := Aside0.mk (HB0.out.trans hb1)
  have HK1 := Aside0.mk (HK0.out.bw hb1)
  obtain ⟨a0, a1, af, al⟩ := two_st HK1.out
  clear hb1
  go_wp2_with fail
  refine bodyPost_ret (res_pop rfl rfl (((HK1.out.set 0 (.int .i64 0)).set 1 (.int .i64 0)).alloc _)) rfl ⟨rfl, ((HB1.out.setCell (Nat.le_refl _) _).setCell (Nat.le_refl _) _).alloc _⟩
theorem IsAg.old (h : IsAg w base ab b mb v L) (i : Nat) (hi : PlF b mb v i) : i < w.heap.size := by
  obtain ⟨D, hd⟩ := h.pl
  rcases hi with rfl | hi | rfl
  · exact hd.blk.lt
  · exact own_lt hd.row i hi
  · exact hd.map.lt
set_option maxHeartbeats 2000000 in
set_option maxRecDepth 100000 in
theorem agPop_calls (h : IsAg w base ab b mb v L) (x : It) (hx : L[0]? = some x) : Calls Try.prog 12 #[.pointer (some ⟨ab, 0, none⟩)] w fun e w' => e = .returned (firstV x true) ∧ ∃ v', IsAg w' base ab b mb v' ((popM L).take (L.length - 1)) ∧ v'.ownBlock = v.ownBlock ∧ Chg (PlF b mb v) w w' := by
  obtain ⟨w0, hw0⟩ : ∃ w0, w0 = w.alloc (.cells #[.int .i64 0, .int .i64 0] 30) := ⟨_, rfl⟩
  have hb0 : Bw w w0 := by rw [hw0]; exact (Bw.refl w).alloc _
  have HK0 := Aside0.mk (show Blk w0 w.heap.size #[.int .i64 0, .int .i64 0] 30 by rw [hw0]; exact Blk.new w _ _)
  have h0 := h.bw hb0
  have HL := agFirst_calls h0 x hx
  dsimp only [firstV, itV] at HL
  have HL := Aside0.mk HL
  have HO := Aside0.mk h.old
  have HA := Aside0.mk h.blk.lt
  have H0 := Aside0.mk h0
  have HB0 := Aside0.mk hb0
  have hne : L ≠ [] := by rintro rfl; simp at hx
  have HP := Aside0.mk (fun W (hW : IsPl W base b mb v L) => hPop_calls hW hne)
  generalize (.iface 30 (itV ((popM L).getD (L.length - 1) (0, 0))) : Value) = zV at HP
  generalize (popM L).take (L.length - 1) = T at HP ⊢
  obtain ⟨xa, xb⟩ := x
  dsimp only at HL
  clear h h0 hb0 hx
  go_enter Try.func12, Try.ntmps12
  go_wp2_with fail
  rw [← hw0]
  refine (HL.out).mono ?_
  rintro e w1 ⟨rfl, hb1⟩
  obtain ⟨w2, hw2⟩ : ∃ w2, w2 = w1.alloc (.cells #[.int .i64 xa, .int .i64 xb] 30) := ⟨_, rfl⟩
  have HB2 := Aside0.mk (show Bw w w2 by rw [hw2]; exact (HB0.out.trans hb1).alloc _)
  have HK2 := Aside0.mk (show Blk w2 w.heap.size #[.int .i64 0, .int .i64 0] 30 by rw [hw2]; exact (HK0.out.bw hb1).alloc _)
  have HM2 := Aside0.mk (show Blk w2 w1.heap.size #[.int .i64 xa, .int .i64 xb] 30 by rw [hw2]; exact Blk.new w1 _ _)
  have h1 := H0.out.bw hb1
  have H2 := Aside0.mk (show IsAg w2 base ab b mb v L by rw [hw2]; exact h1.bw ((Bw.refl w1).alloc _))
  have d0 := h1.blk.cell 0 (.pointer (some ⟨b, 0, none⟩)) rfl
  have hlt := h1.blk.lt
  have HLE := Aside0.mk (HB0.out.trans hb1).size
  clear hb1 h1
  go_wp2_with fail
  rw [← hw2]
  refine (HP.out w2 H2.out.pl).mono ?_
  rintro e w3 ⟨rfl, v3, h3, n3, c3⟩
  have HK3 := Aside0.mk (HK2.out.of_block (c3.block _ HK2.out.lt (fun e => by have := HO.out _ e; omega)))
  have HM3 := Aside0.mk (HM2.out.of_block (c3.block _ HM2.out.lt (fun e => by have := HO.out _ e; have := HLE.out; omega)))
  have H3 := Aside0.mk (H2.out.step c3 h3)
  have HC3 := Aside0.mk ((Chg.of_bw HB2.out).trans c3)
  have HN3 := Aside0.mk n3
  obtain ⟨a0, a1, af, al⟩ := two_st HK3.out
  obtain ⟨m0, m1, mf, ml⟩ := two_st HM3.out
  clear h3 c3 n3 d0 hlt
  go_wp2_with fail
  have hX : Chg (fun i => i = w.heap.size) w3 ((w3.setCell ⟨w.heap.size, 0, none⟩ (.int .i64 xa)).setCell ⟨w.heap.size, 1, none⟩ (.int .i64 xb)) := ((Chg.refl (fun i => i = w.heap.size) w3).set (.inl rfl) _).set (.inl rfl) _
  refine bodyPost_ret (res_pop rfl rfl ((HK3.out.set 0 (.int .i64 xa)).set 1 (.int .i64 xb))) rfl ⟨rfl, v3, H3.out.keep hX (fun e => ?_) (fun i hi e => ?_), HN3.out, (HC3.out.set (.inr (Nat.le_refl _)) _).set (.inr (Nat.le_refl _)) _⟩
  · have := HA.out
    omega
  · have hi' : PlF b mb v i := by
      rcases hi with hi | hi | hi
      · exact .inl hi
      · exact .inr (.inl (HN3.out ▸ hi))
      · exact .inr (.inr hi)
    have := HO.out i hi'
    omega
set_option maxHeartbeats 2000000 in
set_option maxRecDepth 100000 in
theorem agPut_calls (h : IsAg w base ab b mb v L) (x : It) (hx : wfI x) (hl : L.length < 60000) : Calls Try.prog 10 #[.pointer (some ⟨ab, 0, none⟩), itV x] w fun e w' => e = .returned (.int .i64 (if hasK L x.2 then 7 else 0)) ∧ ∃ v', IsAg w' base ab b mb v' (if hasK L x.2 then L else pushL L x) ∧ AgS b mb v v' w w' := by
  obtain ⟨xa, xb⟩ := x
  obtain ⟨w0, hw0⟩ : ∃ w0, w0 = w.alloc (.cells #[.int .i64 xa, .int .i64 xb] 30) := ⟨_, rfl⟩
  have hb0 : Bw w w0 := by rw [hw0]; exact (Bw.refl w).alloc _
  have HB0 := Aside0.mk hb0
  have HK0 := Aside0.mk (show Blk w0 w.heap.size #[.int .i64 xa, .int .i64 xb] 30 by rw [hw0]; exact Blk.new w _ _)
  have h0 := h.bw hb0
  have H0 := Aside0.mk h0
  have d0 := h0.blk.cell 0 (.pointer (some ⟨b, 0, none⟩)) rfl
  obtain ⟨D, hd⟩ := h0.pl
  have d1 := hd.cells.2.1
  obtain ⟨k0, k1, kf, kl⟩ := two_st HK0.out
  have hlk := look_ag hd.map hd.pl xb hx.2
  have hlkd := look_ag hd.map.drew hd.pl xb hx.2
  have HLb := h.lt
  cases hh : hasK L xb
  · rw [hh] at hlk hlkd
    simp only [Bool.false_eq_true, if_false] at hlk hlkd ⊢
    have HF := Aside0.mk (hasK_false hh)
    have hlen : ((L.length : Int) == 65536) = false := by rw [beq_eq_false_iff_ne]; omega
    have HL := Aside0.mk (hLen ⟨D, hd.bw ((Bw.refl w0).drew)⟩)
    clear h h0 hd hb0
    go_enter Try.func10, Try.ntmps10
    go_wp2_with fail
    rw [← hw0]
    clear hw0
    go_region
    all_goals go_wp2_with fail
    all_goals (refine HL.out.mono ?_; rintro e w1 ⟨rfl, hb1⟩)
    all_goals have hb2 := (Bw.refl w0).drew.trans hb1
    all_goals have h1 := H0.out.bw hb2
    all_goals have d0 := h1.blk.cell 0 (.pointer (some ⟨b, 0, none⟩)) rfl
    all_goals obtain ⟨k0, k1, kf, kl⟩ := two_st (HK0.out.bw hb2)
    all_goals have H1 := Aside0.mk (h1.bw ((Bw.refl w1).drew))
    all_goals have HB1 := Aside0.mk ((HB0.out.trans hb2).drew)
    all_goals have HP := Aside0.mk (hPush_calls H1.out.pl (xa, xb) hx HF.out (by omega) (Nat.le_trans HLb (HB1.out.size)))
    all_goals clear h1 hb1 hb2 hlk hlkd
    all_goals go_wp2_with fail
    all_goals go_still_tail 7, (by kernel_rfl)
    all_goals change wpList _ _ _ _ _ w1.drew
    all_goals go_wp2_with fail
    all_goals (refine HP.out.mono ?_; rintro e w2 ⟨rfl, v2, h2, c2, n2⟩)
    all_goals have H2 := Aside0.mk (H1.out.step c2 h2)
    all_goals have HC2 := Aside0.mk ((Chg.of_bw HB1.out).trans c2)
    all_goals have HN2 := Aside0.mk n2
    all_goals clear h2 c2 n2
    all_goals go_wp2_with fail
    all_goals go_ret
    all_goals refine ⟨rfl, v2, H2.out, HC2.out, ?_⟩
    all_goals
      rcases HN2.out with e | ⟨q, e, hq⟩
      · exact .inl e
      · exact .inr ⟨q, e, Nat.le_trans HB1.out.size hq⟩
  · rw [hh] at hlk hlkd
    simp only [if_true] at hlk hlkd ⊢
    clear h h0 hd hb0
    go_enter Try.func10, Try.ntmps10
    go_wp2_with fail
    rw [← hw0]
    clear hw0
    go_region
    all_goals go_wp2_with fail
    all_goals go_ret
    all_goals exact ⟨rfl, v, H0.out.bw ((Bw.refl w0).drew), (AgS.refl b mb v w).bw HB0.out.drew⟩
end
end Go.Proofs.Ytoklhhcjcecbbaa.M
