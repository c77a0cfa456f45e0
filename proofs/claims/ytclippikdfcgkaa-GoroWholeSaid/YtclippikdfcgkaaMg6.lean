/- The law GoroWhole, walked: it answers true. Conditions: the arguments are of their kinds. -/
import Derived.Test.YtclippikdfcgkaaMg5
namespace Go.Proofs.Ytclippikdfcgkaa.M
open Go.RowKit Go.Proofs.YtclippikdfcgkaaW.PrintWords Go.Proofs.YtclippikdfcgkaaW.PrintLast Go.Proofs.YtclippikdfcgkaaW.PrintMore
set_option linter.unusedVariables false
set_option linter.unusedSimpArgs false
attribute [local go_sem ↓] eqInstr
theorem At.go {l : List (Int × Int)} {t i r : Nat} (h : At l t i r) (hs : Small l) (q : Int) {x : Int × Int} (hx : l[i]? = some x) (h0 : x.1 ≠ 0) : ∃ i' r' : Nat, At l (t + 1) i' r' ∧ stepP x ⟨q, i, r, 1⟩ = ⟨q, i', r', 1⟩ := by
  refine ⟨_, _, h.step hs x hx h0, ?_⟩
  rcases stepP_at q i r x h0 (fun hk => (hs x (List.mem_of_getElem? hx) hk).1) with h | ⟨hk, hr⟩
  · exact h
  · obtain ⟨_, _, h3⟩ := h
    rcases h3 with ⟨h3, _⟩ | ⟨y, hy, hk', _⟩
    · omega
    · rw [hx] at hy
      exact absurd (Option.some.inj hy ▸ hk') hk
theorem nowP_at (pss : List (List (Int × Int))) (q i : Nat) (r : Int) : nowP pss ⟨q, i, r, 1⟩ = (pss.getD q []).getD i (0, 0) := by
  unfold nowP atOf
  rw [if_neg (by simp), if_neg (by simp), if_neg (by simp)]
  rfl

set_option maxHeartbeats 4000000 in
set_option maxRecDepth 100000 in
theorem GoroWhole_core (A : Option Addr) (cap : Nat) (xs : List Int) (q : Nat) (more : Nat) (w : World) (hx : Rows encU 1 w A xs) (hl : xs.length ≤ 300) (hcap : xs.length ≤ cap) (hr : ∀ x ∈ xs, 0 ≤ x ∧ x < 18446744073709551616) (hq : q < (progsOf xs).length) (hm : more < 256) :
    Calls Try.prog 8 #[.slice A xs.length cap, .int .i64 (q : Int), .int .u8 (more : Int)] w fun e w' => e = .returned (.bool true) ∧ Bw w w' := by
  have HB := Aside0.mk (Bw.refl w)
  have HX := Aside0.mk hx
  have HR := Aside0.mk hr
  have d1 : decide ((300 : Int) < (xs.length : Int)) = false := by simp; omega
  have hpl : (progsOf xs).length ≤ 5000 := by
    unfold progsOf
    rw [List.length_map]
    unfold pieces
    have := (runW_len (xs.take 4096)).1
    rw [List.length_take] at this
    simp
    omega
  obtain ⟨l, hq'⟩ : ∃ l, (progsOf xs)[q]? = some l := ⟨_, List.getElem?_eq_getElem hq⟩
  have HQ := Aside0.mk hq'
  obtain ⟨hl1, hsm⟩ := progs_ok xs l (List.mem_of_getElem? hq')
  have HSM := Aside0.mk hsm
  obtain ⟨pn, hpn⟩ : ∃ pn, pn = (progsOf xs).length := ⟨_, rfl⟩
  have HPN := Aside0.mk hpn
  rw [← hpn] at hq hpl
  have d2 : decide (pn ≤ q) = false := by simp; omega
  have d3 : decide ((pn : Int) ≤ (q : Int)) = false := by simp; omega
  clear hx hr hq' hsm hpn
  go_enter Try.func8, Try.ntmps8
  go_wp2_with fail
  refine (refRead_calls A cap xs _ HX.out HR.out).mono ?_
  rintro e w1 ⟨A1, c1, rfl, hr1, hb1⟩
  rw [← HPN.out]
  have HRP := Aside0.mk hr1
  have HW := Aside0.mk (HB.out.trans hb1)
  clear hr1 hb1
  go_wp2_with fail
  refine (Read_calls A cap xs _ (HX.out.bw HW.out) hcap HR.out).mono ?_
  rintro e w2 ⟨cb, cv, us, rfl, hc, hb2⟩
  have HC := Aside0.mk hc
  have HRP := Aside0.mk (HRP.out.bw hb2)
  have HW := Aside0.mk (HW.out.trans hb2)
  clear hc hb2
  go_wp2_with fail
  refine (gNew_calls 3 (by decide) HC.out).mono ?_
  rintro e w3 ⟨b, g, rfl, hA, hb3⟩
  have HA := Aside0.mk hA
  have HG := Aside0.mk hA.gel
  have HV := Aside0.mk hb3
  clear hA hb3
  rw [show List.replicate 3 (⟨0, 0, 0, 0⟩ : PlaceS) = [⟨0, 0, 0, 0⟩, ⟨0, 0, 0, 0⟩, ⟨0, 0, 0, 0⟩] from rfl] at HA
  go_wp2_with fail
  refine (gBegin_calls 1 (q : Int) (p := ⟨0, 0, 0, 0⟩) HA.out rfl (by rw [← HPN.out]; omega) (by decide)).mono ?_
  rintro e w4 ⟨rfl, hA4, hC4⟩
  have HA := Aside0.mk hA4
  rw [show [(⟨0, 0, 0, 0⟩ : PlaceS), ⟨0, 0, 0, 0⟩, ⟨0, 0, 0, 0⟩].set 1 ⟨q, 0, 0, 0 + 1⟩ = [⟨0, 0, 0, 0⟩, ⟨q, ((0 : Nat) : Int), ((0 : Nat) : Int), 1⟩, ⟨0, 0, 0, 0⟩] from rfl] at HA
  have HV := Aside0.mk (hC4.below HV.out (fun i e => by rw [e]; exact HG.out))
  clear hA4 hC4
  obtain ⟨ad, B5, c5, rfl, hcl, hrl⟩ := (HRP.out.bw HV.out).at_ q l HQ.out
  have HRL := Aside0.mk hrl
  clear hrl
  go_wp2_with fail
  refine (Steps_calls B5 c5 l _ HRL.out hl1 HSM.out).mono ?_
  rintro e w5 ⟨v, rfl, ho5, hb5⟩
  have HO := Aside0.mk ho5
  have HA := Aside0.mk (HA.out.bw hb5)
  have HV := Aside0.mk (HV.out.trans hb5)
  have hsl : (stepsOf l).length ≤ 65536 := by have := stepsOf_len l HSM.out; omega
  clear ho5 hb5 hcl
  obtain ⟨AV, cV, rfl⟩ := own_slice HO.out
  go_wp2_with fail
  go_loopw [12] (fun iv wr => ∃ k i r : Nat, k ≤ (stepsOf l).length ∧ iv = .int .i64 k ∧ Aside0 (At l k i r) ∧ Aside0 (IsArena wr w2.heap.size b g 3 w1.heap.size cb cv us (progsOf xs) [⟨0, 0, 0, 0⟩, ⟨q, i, r, 1⟩, ⟨0, 0, 0, 0⟩]) ∧ Aside0 (wr.ownsRow w4.heap.size 48 2 (.slice AV (stepsOf l).length cV) (stepsOf l).length ((stepsOf l).flatMap encP)) ∧ Aside0 (Bw w2 wr)) (fun iv _ => (stepsOf l).length - (intOf iv).toNat)
  case atStart => exact ⟨0, 0, 0, by omega, rfl, ⟨At.start l⟩, HA, HO, HV⟩
  case round =>
    obtain ⟨k, i, r, hk, rfl, HAT, HAk, HOk, HVk⟩ := hrel
    by_cases hlt : k < (stepsOf l).length
    · obtain ⟨x, hx, hx0, hst⟩ : ∃ x, l[i]? = some x ∧ x.1 ≠ 0 ∧ (stepsOf l)[k]? = some x := by
        rcases HAT.out.now HSM.out with h | ⟨_, h⟩
        · exact h
        · omega
      obtain ⟨i', r', hat', hsp⟩ := HAT.out.go HSM.out (q : Int) hx hx0
      have HAT' := Aside0.mk hat'
      have HSP := Aside0.mk hsp
      have HX0 := Aside0.mk hx0
      have hlr := HAT.out.left HSM.out
      have HNP := Aside0.mk (show nowP (progsOf xs) ⟨(q : Int), (i : Int), (r : Int), 1⟩ = x by
        rw [nowP_at]
        simp [List.getD_eq_getElem?_getD, HQ.out, hx])
      have HPK := Aside0.mk (show PlOk x ⟨(q : Int), (i : Int), (r : Int), 1⟩ from ⟨fun hk => by have := HSM.out x (List.mem_of_getElem? hx) hk; omega, ⟨by simp, by simp; omega⟩, ⟨by simp, by simp; omega⟩⟩)
      obtain ⟨gw, cw, hvw, _, _⟩ := HOk.out.form (by omega)
      injection hvw with hv1 hv2 hv3
      subst hv1 hv3
      have HR2 := Aside0.mk (fun (W : World) (h : W.ownsRow w4.heap.size 48 2 (.slice (some ⟨gw, 0, none⟩) (stepsOf l).length cV) (stepsOf l).length ((stepsOf l).flatMap encP)) => And.intro (own_cellg h (k * 2) (.int .i64 x.1) (by simpa using flat_get (enc := encP) (sz := 2) (fun _ => rfl) (stepsOf l) k x hst 0 _ rfl)) (own_cellg h (k * 2 + 1) (.int .i64 x.2) (flat_get (enc := encP) (sz := 2) (fun _ => rfl) (stepsOf l) k x hst 1 _ rfl)))
      obtain ⟨s0, s1⟩ := HR2.out wr HOk.out
      have HAd := Aside0.mk (HAk.out.bw (Bw.refl wr).drew)
      have e1 : (x.1 == x.1) = true := by simp
      have e2 : (x.2 == x.2) = true := by simp
      clear hx hx0 hst hat' hsp
      go_wp2_with fail
      go_region_held3 (fun W => W.cell? ⟨gw, k * 2, none⟩ = some (.int .i64 x.1) ∧ W.cell? ⟨gw, k * 2 + 1, none⟩ = some (.int .i64 x.2)) (exact ⟨s0, s1⟩) ((go_at_call 53; refine (gStep_calls (w := _) (base := w2.heap.size) (b := b) (g := g) (n := 3) (cbase := w1.heap.size) (cb := cb) (cv := cv) (us := us) (pss := progsOf xs) (pl := [⟨0, 0, 0, 0⟩, ⟨(q : Int), (i : Int), (r : Int), 1⟩, ⟨0, 0, 0, 0⟩]) 1 (p := ⟨(q : Int), (i : Int), (r : Int), 1⟩) (x := x) HAd.out rfl HNP.out HPK.out).mono ?_; rintro e w6 ⟨rfl, hA6, hC6⟩; have HA6 := Aside0.mk hA6; have HO6 := Aside0.mk (own_of_blk HOk.out (fun k hk => hC6.block k (own_lt HOk.out k hk) (fun e => (ne_types HOk.out HAk.out.row (by decide)) k hk (by rw [e]; rfl)))); have HV6 := Aside0.mk (hC6.below HVk.out.drew (fun i e => by rw [e]; exact HG.out)); obtain ⟨s0, s1⟩ := HR2.out w6 HO6.out; clear hA6 hC6))
      all_goals go_wp2_with fail
      all_goals go_roundw
      all_goals first
        | (case rel =>
            have h6 := HA6.out
            rw [show [(⟨0, 0, 0, 0⟩ : PlaceS), ⟨(q : Int), (i : Int), (r : Int), 1⟩, ⟨0, 0, 0, 0⟩].set 1 (stepP x ⟨(q : Int), (i : Int), (r : Int), 1⟩) = [⟨0, 0, 0, 0⟩, stepP x ⟨(q : Int), (i : Int), (r : Int), 1⟩, ⟨0, 0, 0, 0⟩] from rfl, HSP.out] at h6
            exact ⟨k + 1, i', r', by omega, by go_num, HAT', ⟨h6⟩, HO6, HV6⟩)
        | (case measure => simp [intOf]; omega)
    · obtain rfl : k = (stepsOf l).length := by omega
      have hnow : (l.getD i (0, 0)).1 = 0 := by
        rcases HAT.out.now HSM.out with ⟨x, _, _, h⟩ | ⟨h, _⟩
        · rw [List.getElem?_eq_none (Nat.le_refl _)] at h
          cases h
        · exact h
      have hlr := HAT.out.left HSM.out
      obtain ⟨y, hy⟩ : ∃ y, y = l.getD i (0, 0) := ⟨_, rfl⟩
      rw [← hy] at hnow
      have HNP := Aside0.mk (show nowP (progsOf xs) ⟨(q : Int), (i : Int), (r : Int), 1⟩ = y by
        rw [nowP_at, hy, show (progsOf xs).getD q [] = l by rw [List.getD_eq_getElem?_getD, HQ.out]; rfl])
      have HPK := Aside0.mk (show PlOk y ⟨(q : Int), (i : Int), (r : Int), 1⟩ from ⟨fun hk => by omega, ⟨by simp, by simp; omega⟩, ⟨by simp, by simp; omega⟩⟩)
      have HY := Aside0.mk hnow
      have HSP := Aside0.mk (show stepP y ⟨(q : Int), (i : Int), (r : Int), 1⟩ = ⟨(q : Int), (i : Int), (r : Int), 1⟩ by unfold stepP; rw [if_pos hnow])
      clear hy hnow hlt
      go_wp2_with fail
      obtain ⟨wo, hwo⟩ : ∃ wo, wo = wr := ⟨_, rfl⟩
      subst hwo
      go_loopw [13] (fun iv wr => ∃ k : Nat, k ≤ more + 1 ∧ iv = .int .i64 k ∧ Aside0 (IsArena wr w2.heap.size b g 3 w1.heap.size cb cv us (progsOf xs) [⟨0, 0, 0, 0⟩, ⟨q, i, r, 1⟩, ⟨0, 0, 0, 0⟩]) ∧ Aside0 (Bw w2 wr)) (fun iv _ => more + 1 - (intOf iv).toNat)
      case atStart => exact ⟨0, by omega, rfl, HAk, HVk⟩
      case round =>
        obtain ⟨k, hk, rfl, HAk, HVk⟩ := hrel
        by_cases hlt : k ≤ more
        · have hfd := fieldInstr0
          have e0 : (y.1 == 0) = true := by have := HY.out; simpa using this
          have e1 : (y.1 != 0) = false := by have := HY.out; simpa using this
          go_wp2_with fail
          refine (gStep_calls (base := w2.heap.size) (b := b) (g := g) (n := 3) (cbase := w1.heap.size) (cb := cb) (cv := cv) (us := us) (pss := progsOf xs) (pl := [⟨0, 0, 0, 0⟩, ⟨(q : Int), (i : Int), (r : Int), 1⟩, ⟨0, 0, 0, 0⟩]) 1 (p := ⟨(q : Int), (i : Int), (r : Int), 1⟩) (x := y) HAk.out rfl HNP.out HPK.out).mono ?_
          rintro e w6 ⟨rfl, hA6, hC6⟩
          have HA6 := Aside0.mk hA6
          have HV6 := Aside0.mk (hC6.below HVk.out (fun i e => by rw [e]; exact HG.out))
          clear hA6 hC6
          go_wp2_with fail
          go_roundw
          case rel =>
            have h6 := HA6.out
            rw [show [(⟨0, 0, 0, 0⟩ : PlaceS), ⟨(q : Int), (i : Int), (r : Int), 1⟩, ⟨0, 0, 0, 0⟩].set 1 (stepP y ⟨(q : Int), (i : Int), (r : Int), 1⟩) = [⟨0, 0, 0, 0⟩, stepP y ⟨(q : Int), (i : Int), (r : Int), 1⟩, ⟨0, 0, 0, 0⟩] from rfl, HSP.out] at h6
            exact ⟨k + 1, by omega, by go_num, ⟨h6⟩, HV6⟩
          case measure => simp [intOf]; omega
        · go_wp2_with fail
          refine (gawake_calls _).mono ?_
          rintro e w6 ⟨rfl, hb6⟩
          go_wp2_with fail
          go_ret
          exact ⟨rfl, HW.out.trans (HVk.out.trans hb6)⟩
theorem RdRow.capLe {ks : List FK} {w : World} {a : Option Addr} {len cap : Nat} (h : RdRow ks w a len cap) : len ≤ cap := by
  rcases h with ⟨_, h1, h2⟩ | ⟨x, rfl, h1, _⟩
  · omega
  · exact h1
set_option maxHeartbeats 1000000 in
theorem GoroWhole_walk (w : World) (a : Option Addr) (n cap : Nat) (f : RdRow [.int .u64] w a n cap) (y : n * 8 ≤ 140737488351232) (p : Int) (wp : (Lit.int .i64 p).wf = true) (m : Int) (wm : (Lit.int .u8 m).wf = true) :
    Calls Try.prog 8 #[.slice a n cap, .int .i64 p, .int .u8 m] w fun e w' => e = .returned (.bool true) ∧ Bw w w' := by
  have hcap := f.capLe
  obtain ⟨xs, rfl, hx, hxw⟩ := rd_ints f
  have hr : ∀ x ∈ xs, 0 ≤ x ∧ x < 18446744073709551616 := fun x hx => wf_u64 (hxw x hx)
  have HB := Aside0.mk (Bw.refl w)
  obtain ⟨m0, m1⟩ := wf_u8 wm
  by_cases h1 : xs.length ≤ 300
  · by_cases h2 : 0 ≤ p ∧ p < (progsOf xs).length
    · obtain ⟨q, rfl⟩ := Int.eq_ofNat_of_zero_le h2.1
      obtain ⟨mm, rfl⟩ := Int.eq_ofNat_of_zero_le m0
      exact GoroWhole_core a cap xs q mm w hx h1 hcap hr (by omega) (by omega)
    · have d1 : decide ((300 : Int) < (xs.length : Int)) = false := by simp; omega
      have HX := Aside0.mk hx
      have HR := Aside0.mk hr
      obtain ⟨pn, hpn⟩ : ∃ pn, pn = (progsOf xs).length := ⟨_, rfl⟩
      rw [← hpn] at h2
      have HPN := Aside0.mk hpn
      by_cases h3 : p < 0
      · have d2 : decide (p < 0) = true := by simpa using h3
        clear f hx hxw hr h2 h3 hpn m0 m1 wm wp
        go_enter Try.func8, Try.ntmps8
        go_wp2_with fail
        refine (refRead_calls a cap xs _ HX.out HR.out).mono ?_
        rintro e w1 ⟨A1, c1, rfl, hr1, hb1⟩
        go_wp2_with fail
        refine (gawake_calls _).mono ?_
        rintro e w2 ⟨rfl, hb2⟩
        go_wp2_with fail
        go_ret
        exact ⟨rfl, (HB.out.trans hb1).trans hb2⟩
      · have d2 : decide (p < 0) = false := by simpa using h3
        have d3 : decide ((pn : Int) ≤ p) = true := by simp; omega
        clear f hx hxw hr h2 h3 hpn m0 m1 wm wp
        go_enter Try.func8, Try.ntmps8
        go_wp2_with fail
        refine (refRead_calls a cap xs _ HX.out HR.out).mono ?_
        rintro e w1 ⟨A1, c1, rfl, hr1, hb1⟩
        rw [← HPN.out]
        go_wp2_with fail
        refine (gawake_calls _).mono ?_
        rintro e w2 ⟨rfl, hb2⟩
        go_wp2_with fail
        go_ret
        exact ⟨rfl, (HB.out.trans hb1).trans hb2⟩
  · have d1 : decide ((300 : Int) < (xs.length : Int)) = true := by simp; omega
    clear f hx hxw hr m0 m1 wm wp
    go_enter Try.func8, Try.ntmps8
    go_wp2_with fail
    refine (gawake_calls _).mono ?_
    rintro e w1 ⟨rfl, hb1⟩
    go_wp2_with fail
    go_ret
    exact ⟨rfl, HB.out.trans hb1⟩
end Go.Proofs.Ytclippikdfcgkaa.M
