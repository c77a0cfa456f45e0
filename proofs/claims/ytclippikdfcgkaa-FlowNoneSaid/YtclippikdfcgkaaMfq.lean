/- Package flow: a machine that runs others: the next part. Conditions: no more than a million answers. -/
import Derived.Test.YtclippikdfcgkaaMfp
import Derived.Deep.CutRange
namespace Go.Proofs.Ytclippikdfcgkaa.M
open Go.RowKit Go.Proofs.YtclippikdfcgkaaW.PrintWords Go.Proofs.YtclippikdfcgkaaW.PrintLast Go.Proofs.YtclippikdfcgkaaW.PrintMore
set_option linter.unusedVariables false
set_option linter.unusedSimpArgs false
section
variable {w w1 : World} {base b : Nat} {s : ChS} {tv : Value} {A : Option Addr} {cap : Nat} {vg : Value} {mb bm : Nat} {vm : Value} {m : MemS} {who : Int} {subv afv : Value} {got : List Int}
abbrev Part := Nat × ChS
/-- What is run next, what is left behind it, what was answered. -/
def nextP : List Part → List Int → Option Part × List Part × List Int
  | [], got => (none, [], got)
  | p :: r, got => if p.2.kind = 0 then nextP r (got ++ p.2.got) else (some p, r, got)
/-- The parts: chains, none of which has done anything yet. -/
def AreParts (w : World) (base : Nat) (ps : List Part) : Prop := ∀ p ∈ ps, ∃ tv A cap, IsChain w base p.1 p.2 tv A cap (.slice none 0 0) ∧ p.2.got = []
def SubOk (w : World) (b : Nat) (cur : Option Part) (subv afv : Value) : Prop :=
  match cur with
  | none => subv = Value.nilIface
  | some p => subv = chainV p.1 ∧ ∃ cb pb, afv = .func (.func 146) #[] #[.pointer (some ⟨cb, 0, none⟩), .pointer (some ⟨pb, 0, none⟩)] ∧ Blk w cb #[.pointer (some ⟨b, 0, none⟩)] 115 ∧ Blk w pb #[.pointer (some ⟨p.1, 0, none⟩)] 115
theorem AreParts.tail {p : Part} {ps : List Part} (h : AreParts w base (p :: ps)) : AreParts w base ps := fun q hq => h q (List.mem_cons_of_mem _ hq)
theorem AreParts.bw {ps : List Part} (h : AreParts w base ps) (hb : Bw w w1) : AreParts w1 base ps := fun q hq => by
  obtain ⟨tv, A, cap, hc, hg⟩ := h q hq
  exact ⟨tv, A, cap, hc.bw hb, hg⟩
theorem chF_nil {p i : Nat} (h : ChF p (.slice none 0 0) i) : i = p := by
  rcases h with h | h
  · exact h
  · simp [Value.ownBlock] at h
theorem AreParts.chg {S : Nat → Prop} {ps : List Part} (h : AreParts w base ps) (hc : Chg S w w1) (hS : OnlyT S w) (hd : ∀ p ∈ ps, ¬ S p.1) : AreParts w1 base ps := fun q hq => by
  obtain ⟨tv, A, cap, hch, hg⟩ := h q hq
  exact ⟨tv, A, cap, hch.chg hc hS (fun i hi => by rw [chF_nil hi]; exact hd q hq), hg⟩
def NextPost (w : World) (base b : Nat) (who : Int) (r : Option Part × List Part × List Int) (vg : Value) (e : Ending) (w' : World) : Prop :=
  e = .returned (.tuple #[]) ∧ ∃ subv afv A cap vg', IsPar w' base b who subv afv A cap (r.2.1.map (·.1)) vg' r.2.2 ∧ SubOk w' b r.1 subv afv ∧ Chg (ParF b vg) w w' ∧ NewRow w vg vg'
set_option maxHeartbeats 1000000 in
theorem nextPart_nil (h : IsPar w base b who Value.nilIface afv A cap [] vg got) :
    Calls Try.prog 123 #[.pointer (some ⟨b, 0, none⟩)] w (NextPost w base b who (none, [], got) vg) := by
  have HB := Aside0.mk (Bw.refl w)
  have k10 : w.cell? ⟨b, 10, none⟩ = some (.slice A 0 cap) := h.blk.cell 10 _ rfl
  have hlt := h.blk.lt
  have H := Aside0.mk h
  clear h
  go_enter Try.func123, Try.ntmps123
  go_wp2_with fail
  have HW : Bw w (w.alloc (.cells #[.pointer (some ⟨b, 0, none⟩)] 115)) := HB.out.alloc _
  refine bodyPost_ret (v := .tuple #[]) (by simp [results, Try.results123, go_sem]) rfl ⟨rfl, Value.nilIface, afv, A, cap, vg, H.out.bw HW, rfl, Chg.of_bw HW, .inl rfl⟩
theorem add_one (g i j : Nat) : (⟨g, i, none⟩ : Addr).add j = ⟨g, i + j, none⟩ := by unfold Addr.add; simp
set_option maxHeartbeats 2000000 in
set_option maxRecDepth 100000 in
theorem nextPart_cons (p : Part) (r : List Part) (h : IsPar w base b who Value.nilIface afv A cap (p.1 :: r.map (·.1)) vg got) (hp : AreParts w base (p :: r)) (hd : p.1 ≠ b)
    (ih : ∀ (W : World) (A' : Option Addr) (cap' : Nat) (cb pb : Nat), p.2.kind = 0 → IsPar W base b who Value.nilIface afv A' cap' (r.map (·.1)) vg got → AreParts W base (p :: r) → Blk W cb #[.pointer (some ⟨b, 0, none⟩)] 115 → Blk W pb #[.pointer (some ⟨p.1, 0, none⟩)] 115 →
      Calls Try.prog 146 #[.pointer (some ⟨cb, 0, none⟩), .pointer (some ⟨pb, 0, none⟩)] W (NextPost W base b who (nextP r (got ++ p.2.got)) vg))
    (hpn : ∀ q ∈ (p :: r), q.1 ≠ b) :
    Calls Try.prog 123 #[.pointer (some ⟨b, 0, none⟩)] w (NextPost w base b who (nextP (p :: r) got) vg) := by
  have HIH := Aside0.mk ih
  have HNX : Aside0 (nextP (p :: r) got = if p.2.kind = 0 then nextP r (got ++ p.2.got) else (some p, r, got)) := ⟨rfl⟩
  have HPN := Aside0.mk hpn
  clear ih hpn
  have HB := Aside0.mk (Bw.refl w)
  obtain ⟨g, base0, cap0, i, all, rfl, ho, hdr⟩ := h.rest.2.2 (by simp)
  have hai : all[i]? = some p.1 := by
    have : (all.drop i)[0]? = some p.1 := by rw [← hdr]; rfl
    rwa [List.getElem?_drop, Nat.add_zero] at this
  obtain ⟨hc1, hc2, _⟩ := h.rest
  simp at hc1
  obtain ⟨n, hn⟩ : ∃ n, r.length = n := ⟨_, rfl⟩
  rw [hn] at hc1
  have a0 : w.cell? ⟨g, i, none⟩ = some (.pointer (some ⟨p.1, 0, none⟩)) := by
    have := ho.cells (g := g) rfl i _ (show (ptrRow all)[i]? = some (.pointer (some ⟨p.1, 0, none⟩)) by unfold ptrRow; rw [List.getElem?_map, hai]; rfl)
    rwa [add_one, Nat.zero_add] at this
  have k10 : w.cell? ⟨b, 10, none⟩ = some (.slice (some ⟨g, i, none⟩) (n + 1) cap) := by
    have k := h.blk.cell 10 (.slice (some ⟨g, i, none⟩) (p.1 :: r.map (·.1)).length cap) rfl
    rw [List.length_cons, List.length_map, hn] at k
    exact k
  have hgl : g < w.heap.size := own_lt ho g rfl
  have f10 := h.blk.free 10
  have hlt := h.blk.lt
  have H := Aside0.mk h
  have HP := Aside0.mk hp
  have HO := Aside0.mk ho
  have HD := Aside0.mk hdr
  have HNE := Aside0.mk hd
  have HN := Aside0.mk hn
  clear h hp ho hdr hai hd hn
  have L1 := (Blk.new w #[.pointer (some ⟨b, 0, none⟩)] 115).alloc (.cells #[.pointer (some ⟨p.1, 0, none⟩)] 115)
  have L2 := Blk.new (w.alloc (.cells #[.pointer (some ⟨b, 0, none⟩)] 115)) #[.pointer (some ⟨p.1, 0, none⟩)] 115
  rw [show (w.alloc (.cells #[.pointer (some ⟨b, 0, none⟩)] 115)).heap.size = w.heap.size + 1 by simp] at L2
  have HL1 := Aside0.mk L1
  have HL2 := Aside0.mk L2
  clear L1 L2
  go_enter Try.func123, Try.ntmps123
  go_upto_region 3 with fail
  obtain ⟨W2, hW2⟩ : ∃ W2, W2 = (w.alloc (.cells #[.pointer (some ⟨b, 0, none⟩)] 115)).alloc (.cells #[.pointer (some ⟨p.1, 0, none⟩)] 115) := ⟨_, rfl⟩
  have HW2 := Aside0.mk (show Bw w W2 by rw [hW2]; exact (HB.out.alloc _).alloc _)
  rw [← hW2] at HL1 HL2 ⊢
  clear hW2 a0 k10 f10
  have H2 := Aside0.mk (H.out.bw HW2.out)
  go_cut [] from 15 to 22 (fun wx => ∃ A' cap', Aside0 (IsPar wx base b who Value.nilIface afv A' cap' (r.map (·.1)) vg got) ∧ Aside0 (Chg (fun i => i = b) W2 wx))
  case first =>
    have k10 : W2.cell? ⟨b, 10, none⟩ = some (.slice (some ⟨g, i, none⟩) (n + 1) cap) := by
      have k := H2.out.blk.cell 10 (.slice (some ⟨g, i, none⟩) (p.1 :: r.map (·.1)).length cap) rfl
      rw [List.length_cons, List.length_map, HN.out] at k
      exact k
    have f10 := H2.out.blk.free 10
    have hlt := H2.out.blk.lt
    have q1 := HL1.out.cell 0 _ rfl
    have hr0 : (0 : Int) ≤ (n : Int) := by omega
    by_cases hcap : cap = 1
    · subst hcap
      have hr1 : n = 0 := by omega
      go_wp2_with fail
      go_region
      all_goals go_wp2_with fail
      all_goals go_meet
      all_goals (case rel =>
        have hrn : r = [] := List.length_eq_zero_iff.1 (HN.out.trans hr1)
        have hc := H2.out.setc 10 (.slice (some ⟨g, i, none⟩) 0 0)
        refine ⟨some ⟨g, i, none⟩, 0, ⟨⟨H2.out.le, ?_, ⟨by rw [hrn]; simp, by omega, fun h => absurd (by rw [hrn]; rfl) h⟩, hc.2.2⟩⟩, ⟨hc.1.drew⟩⟩
        have := (H2.out.blk.set 10 (.slice (some ⟨g, i, none⟩) 0 0)).drew
        simpa [parCells, hrn] using this)
    · have hcap2 : 2 ≤ cap := by omega
      go_wp2_with fail
      go_region
      all_goals go_wp2_with fail
      all_goals go_meet
      all_goals (case rel =>
        have hc := H2.out.setc 10 (.slice (some ⟨g, i + 1, none⟩) n (cap - 1))
        have hne : some b ≠ (Value.slice (some ⟨g, 0, none⟩) all.length cap0).ownBlock := own_ne (t := 185) (pw_own_below HO.out HW2.out) H2.out.blk (by decide)
        refine ⟨some ⟨g, i + 1, none⟩, cap - 1, ⟨⟨H2.out.le, ?_, ⟨by rw [List.length_map, HN.out]; omega, by omega, fun _ => ⟨g, base0, cap0, i + 1, all, rfl, own_setCell (p := ⟨b, 10, none⟩) (pw_own_below HO.out HW2.out) hne _, ?_⟩⟩, hc.2.2⟩⟩, ⟨hc.1.drew⟩⟩
        · have := (H2.out.blk.set 10 (.slice (some ⟨g, i + 1, none⟩) n (cap - 1))).drew
          rw [List.length_map, HN.out]
          simpa [parCells] using this
        · have h2 := congrArg List.tail HD.out
          rw [List.tail_drop] at h2
          exact h2)
  case rest =>
    obtain ⟨A', cap', HC, HV⟩ := hcut
    have HL1 := Aside0.mk (HL1.out.keepT HV.out (OnlyT.blk H2.out.blk) (by decide) (by decide))
    have HL2 := Aside0.mk (HL2.out.keepT HV.out (OnlyT.blk H2.out.blk) (by decide) (by decide))
    have s1 : wc.cell? ⟨w.heap.size, 0, none⟩ = some (.pointer (some ⟨b, 0, none⟩)) := HL1.out.cell 0 _ rfl
    have s2 : wc.cell? ⟨w.heap.size + 1, 0, none⟩ = some (.pointer (some ⟨p.1, 0, none⟩)) := HL2.out.cell 0 _ rfl
    have HPc := Aside0.mk (((HP.out.bw HW2.out).chg HV.out (OnlyT.blk H2.out.blk) (fun q hq => HPN.out q hq)).bw (Bw.refl wc).drew)
    have HCd := Aside0.mk (HC.out.bw (Bw.refl wc).drew)
    have HL1d := Aside0.mk (HL1.out.drew)
    have HL2d := Aside0.mk (HL2.out.drew)
    have hbl := HC.out.blk.lt
    have CV := Aside0.mk (((Chg.of_bw HW2.out : Chg (fun i => i = b) w W2).trans HV.out).drew)
    obtain ⟨tvp, Ap, capp, hchp, hgp⟩ := HPc.out p (List.mem_cons_self ..)
    have KP1 := Aside0.mk (show wc.drew.cell? ⟨p.1, 1, none⟩ = some (.int .i64 p.2.kind) from hchp.blk.cell 1 _ rfl)
    have KP7 := Aside0.mk (show wc.drew.cell? ⟨p.1, 7, none⟩ = some Value.nilIface from hchp.blk.cell 7 _ rfl)
    have HGP := Aside0.mk hgp
    clear hchp hgp
    by_cases h0 : p.2.kind = 0
    · have HG2 := Aside0.mk (HNX.out.trans (by rw [if_pos h0]))
      have E0 := Aside0.mk (show (p.2.kind == 0) = true by simpa using h0)
      have H0 := Aside0.mk h0
      clear h0
      go_wp2_with fail
      go_still_tail 6, (by kernel_rfl)
      change wpList _ _ _ _ _ wc.drew
      go_wp2_with fail
      refine (fRun_done b p.1 p.2.kind #[.pointer (some ⟨w.heap.size, 0, none⟩), .pointer (some ⟨w.heap.size + 1, 0, none⟩)] wc.drew (fun e w' => ∃ W, Bw wc.drew W ∧ NextPost W base b who (nextP r (got ++ p.2.got)) vg e w') E0.out KP1.out KP7.out (fun W hb => (HIH.out W A' cap' _ _ H0.out (HCd.out.bw hb) (HPc.out.bw hb) (HL1d.out.bw hb) (HL2d.out.bw hb)).mono fun e w' h => ⟨h.1, W, hb, h⟩)).mono ?_
      rintro e w6 ⟨rfl, W6, hb6, hp6⟩
      have HP6 := Aside0.mk hp6
      have HB6 := Aside0.mk hb6
      clear hp6 hb6
      go_wp2_with fail
      go_end0
      rw [HG2.out]
      obtain ⟨_, sv, av, A6, cap6, vg6, hI6, hS6, hC6, hN6⟩ := HP6.out
      have c0 : Chg (ParF b vg) w W6 := (CV.out.mono (T := ParF b vg) fun i hi => .inl hi).trans (Chg.of_bw HB6.out)
      refine ⟨rfl, sv, av, A6, cap6, vg6, hI6, hS6, c0.trans hC6, ?_⟩
      rcases hN6 with e | ⟨k, e, hk⟩
      · exact .inl e
      · exact .inr ⟨k, e, Nat.le_trans c0.size hk⟩
    · have HG2 := Aside0.mk (HNX.out.trans (by rw [if_neg h0]))
      have E0 := Aside0.mk (show (p.2.kind == 0) = false by simpa using h0)
      clear h0
      go_wp2_with fail
      go_still_tail 6, (by kernel_rfl)
      change wpList _ _ _ _ _ wc.drew
      go_wp2_with fail
      refine (fRun_on b p.1 p.2.kind _ _ _ Value.nilIface afv wc.drew E0.out KP1.out KP7.out (HCd.out.blk.cell 7 _ rfl) (HCd.out.blk.cell 8 _ rfl) (HCd.out.blk.free 7) (HCd.out.blk.free 8) HCd.out.blk.lt).mono ?_
      rintro e w6 ⟨rfl, W5, hb5, hw6⟩
      have hI6 := ((HCd.out.bw hb5).sub (chainV p.1)).aft (.func (.func 146) #[] #[.pointer (some ⟨w.heap.size, 0, none⟩), .pointer (some ⟨w.heap.size + 1, 0, none⟩)])
      have C6 : Chg (fun i => i = b) W5 w6 := by rw [hw6]; exact ((Chg.refl (fun i => i = b) W5).setb (k := b) (i := 7) rfl _).setb (k := b) (i := 8) rfl _
      rw [← hw6] at hI6
      have HI6 := Aside0.mk hI6
      have OB := OnlyT.blk (HCd.out.bw hb5).blk
      have HX1 := Aside0.mk ((HL1d.out.bw hb5).keepT C6 OB (by decide) (by decide))
      have HX2 := Aside0.mk ((HL2d.out.bw hb5).keepT C6 OB (by decide) (by decide))
      have HC6 := Aside0.mk ((CV.out.trans (Chg.of_bw hb5)).trans C6)
      clear hI6 C6 OB hw6 hb5
      go_wp2_with fail
      go_end0
      rw [HG2.out]
      exact ⟨rfl, _, _, A', cap', vg, HI6.out, ⟨rfl, _, _, rfl, HX1.out, HX2.out⟩, HC6.out.mono (fun i hi => .inl hi), .inl rfl⟩
end
end Go.Proofs.Ytclippikdfcgkaa.M
