/- Package flow: a machine that runs others: what follows a part that is done at once; Parts. Conditions: no more than a million answers. -/
import Derived.Test.YtclippikdfcgkaaMfq
namespace Go.Proofs.Ytclippikdfcgkaa.M
open Go.RowKit Go.Proofs.YtclippikdfcgkaaW.PrintWords Go.Proofs.YtclippikdfcgkaaW.PrintLast Go.Proofs.YtclippikdfcgkaaW.PrintMore
set_option linter.unusedVariables false
set_option linter.unusedSimpArgs false
section
variable {w w1 : World} {base b : Nat} {s : ChS} {tv : Value} {A : Option Addr} {cap : Nat} {vg : Value} {mb bm : Nat} {vm : Value} {m : MemS} {who : Int} {subv afv : Value} {got : List Int}
theorem step_append_run {P : Program} {ops : Array Oper} {o : Oper} {a : Act} {K : Act → World → Prop} {Q : Exit → Act → World → Prop} {E : Prop} (W : World) (hgd : o.guard = none) (s x : Operand) (t : TypeId)
    (ho : o.op = .call { callee := .builtin .append, args := #[s, x], argTypes := #[t, t] }) (v xv v' : Value) (w' : World) (hs : a.eval s = v) (hx : a.eval x = xv)
    (hr : (Builtin.append_ #[t, t] o.type #[v, xv]).run P W = .ok v' w') (h : K (a.put o.dst v') w') :
    if Region.wanted o (yielded ops a.tmps) = true then Oper.wp P o a W K Q else E := by
  have hw : Region.wanted o (yielded ops a.tmps) = true := by simp [Region.wanted, hgd]
  rw [if_pos hw]
  unfold Oper.wp execOp
  simp only [ho, resolve, invoke, builtin, Sem.run_bind, Sem.run_pure, Result.andThen_ok, List.map_toArray, List.map_cons, List.map_nil, hs, hx, hr]
  exact h
set_option maxHeartbeats 2000000 in
set_option maxRecDepth 100000 in
theorem next1_nil (p : Part) (r : List Part) (cb pb : Nat) (h : IsPar w base b who Value.nilIface afv A cap (r.map (·.1)) vg got) (hp : AreParts w base (p :: r)) (hcb : Blk w cb #[.pointer (some ⟨b, 0, none⟩)] 115) (hpb : Blk w pb #[.pointer (some ⟨p.1, 0, none⟩)] 115) (hpn : ∀ q ∈ (p :: r), q.1 ≠ b)
    (ih : ∀ (W : World), IsPar W base b who Value.nilIface afv A cap (r.map (·.1)) vg got → AreParts W base r → Calls Try.prog 123 #[.pointer (some ⟨b, 0, none⟩)] W (NextPost W base b who (nextP r got) vg)) :
    Calls Try.prog 146 #[.pointer (some ⟨cb, 0, none⟩), .pointer (some ⟨pb, 0, none⟩)] w (NextPost w base b who (nextP r (got ++ p.2.got)) vg) := by
  obtain ⟨tvp, Ap, capp, hchp, hgp⟩ := hp p (List.mem_cons_self ..)
  rw [hgp, List.append_nil]
  have k11 : w.cell? ⟨b, 11, none⟩ = some vg := h.blk.cell 11 _ rfl
  have p11 : w.cell? ⟨p.1, 11, none⟩ = some (.slice none 0 0) := hchp.blk.cell 11 _ rfl
  have c0 := hcb.cell 0 _ rfl
  have c1 := hpb.cell 0 _ rfl
  have f11 := h.blk.free 11
  have hlt := h.blk.lt
  have H := Aside0.mk h
  have HP := Aside0.mk hp
  have HPN := Aside0.mk hpn
  have HCB := Aside0.mk hcb
  obtain ⟨i0, hi, _⟩ := Option.map_eq_some_iff.1 infoU
  have HI := Aside0.mk hi
  have HIH := Aside0.mk ih
  obtain ⟨VA, vn, vc, hvs⟩ : ∃ VA vn vc, vg = .slice VA vn vc := by
    obtain ⟨GA, gc, hvg⟩ := own_slice h.own
    exact ⟨_, _, _, hvg⟩
  clear h hp hcb hpb hpn hchp hgp hi ih
  have HRUN := Aside0.mk (fun ty => run_append_owned_none (P := Try.prog) (w := w.drew) base 41 ty 55 i0 1 Try.underlying41 HI.out vg got.length (nums .u64 got) (H.out.bw (Bw.refl w).drew).own)
  rw [hvs] at k11 HRUN
  have HVS := Aside0.mk hvs
  clear hvs
  go_enter Try.func146, Try.ntmps146
  go_wp2_with fail
  go_region_law (refine step_append_run _ rfl (.tmp 6) (.tmp 10) 41 (by rfl) (.slice VA vn vc) (.slice none 0 0) (.slice VA vn vc) _ (by rfl) (by rfl) (HRUN.out _) ?_)
  all_goals
    have C11 := (Chg.refl (fun j => j = b) w).setb (k := b) (i := 11) rfl (.slice VA vn vc)
    have HI2 : IsPar (w.setCell ⟨b, 11, none⟩ (.slice VA vn vc)) base b who Value.nilIface afv A cap (r.map (·.1)) vg got := by
      have hc := H.out.setc 11 (.slice VA vn vc)
      refine ⟨H.out.le, ?_, hc.2.1, hc.2.2⟩
      have := H.out.blk.set 11 (.slice VA vn vc)
      rw [← HVS.out] at this ⊢
      simpa [parCells] using this
    have HP2 : AreParts (w.setCell ⟨b, 11, none⟩ (.slice VA vn vc)) base (p :: r) := HP.out.chg C11 (OnlyT.blk H.out.blk) (fun q hq => HPN.out q hq)
    obtain ⟨W3, hW3⟩ : ∃ W3, W3 = (w.setCell ⟨b, 11, none⟩ (.slice VA vn vc)).drew := ⟨_, rfl⟩
    have HI3 := Aside0.mk (show IsPar W3 base b who Value.nilIface afv A cap (r.map (·.1)) vg got by rw [hW3]; exact HI2.bw (Bw.refl _).drew)
    have HP3 := Aside0.mk (show AreParts W3 base (p :: r) by rw [hW3]; exact HP2.bw (Bw.refl _).drew)
    have HC3 := Aside0.mk (show Chg (fun j => j = b) w W3 by rw [hW3]; exact C11.drew)
    have s0 : W3.cell? ⟨cb, 0, none⟩ = some (.pointer (some ⟨b, 0, none⟩)) := by rw [hW3]; exact (HCB.out.keepT C11.drew (OnlyT.blk H.out.blk) (by decide) (by decide)).cell 0 _ rfl
    rw [← hW3]
    clear hW3 C11 HI2 HP2 k11 p11 c0 c1
    go_wp2_with fail
    refine (HIH.out W3 HI3.out HP3.out.tail).mono ?_
    rintro e w4 ⟨rfl, hr⟩
    have HR := Aside0.mk hr
    clear hr
    go_wp2_with fail
    go_end0
    obtain ⟨sv, av, A6, cap6, vg6, hI6, hS6, hC6, hN6⟩ := HR.out
    have c0 : Chg (ParF b vg) w W3 := HC3.out.mono (T := ParF b vg) fun i hi => .inl hi
    refine ⟨rfl, sv, av, A6, cap6, vg6, hI6, hS6, c0.trans hC6, ?_⟩
    rcases hN6 with e | ⟨k, e, hk⟩
    · exact .inl e
    · exact .inr ⟨k, e, Nat.le_trans c0.size hk⟩
theorem nextPart_calls : ∀ (r : List Part) (A : Option Addr) (cap : Nat) (got : List Int) (w : World), IsPar w base b who Value.nilIface afv A cap (r.map (·.1)) vg got → AreParts w base r → (∀ q ∈ r, q.1 ≠ b) →
    Calls Try.prog 123 #[.pointer (some ⟨b, 0, none⟩)] w (NextPost w base b who (nextP r got) vg)
  | [], A, cap, got, w, h, hp, hn => nextPart_nil h
  | p :: r, A, cap, got, w, h, hp, hn => nextPart_cons p r h hp (hn p (List.mem_cons_self ..)) (fun W A' cap' cb pb h0 hW hpW hcb hpb =>
      next1_nil p r cb pb hW hpW hcb hpb hn fun W' hW' hpW' => nextPart_calls r A' cap' got W' hW' hpW' fun q hq => hn q (List.mem_cons_of_mem _ hq)) hn
theorem goS_got : ∀ (l : List Acc) (s : ChS), (goS s l).got = s.got ∧ (goS s l).who = s.who
  | [], s => ⟨rfl, rfl⟩
  | a :: r, s => by
    unfold goS
    repeat' split
    all_goals first | exact ⟨rfl, rfl⟩ | exact goS_got r s
theorem newS_got (who : Int) (l : List Acc) : (newS who l).got = [] := (goS_got l _).1
end
end Go.Proofs.Ytclippikdfcgkaa.M
