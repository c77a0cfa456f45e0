/- Report: the number behind a letter; the event of a line, as far as it goes. Conditions: lines below 2^20 bytes. -/
import Derived.Test.YtogpjimmcckkcaaDoorMv3
namespace Go.Proofs.YtogpjimmcckkcaaDoor.M
open Go.RowKit Go.Proofs.YtogpjimmcckkcaaDoorW.PrintWords Go.Proofs.YtogpjimmcckkcaaDoorW.PrintLast Go.Proofs.YtogpjimmcckkcaaDoorW.PrintMore
set_option linter.unusedVariables false
set_option linter.unusedSimpArgs false
/-- The number behind a letter; -1: there is none. -/
def numG (s : List UInt8) (c : UInt8) : Int :=
  match Lib.atoiAll (Lib.trimPrefix s [c]) with
  | .ok v => if Lib.hasPrefix s [c] = true then v else -1
  | _ => -1
theorem trimP_le (s : List UInt8) (c : UInt8) : (Lib.trimPrefix s [c]).length ≤ s.length := by
  unfold Lib.trimPrefix
  split
  · simp
  · omega
set_option maxHeartbeats 1000000 in
theorem repNumber_calls (s : List UInt8) (c : UInt8) (w : World) (he : Env w) (hs : s.length ≤ 1048576) : Calls Tryd.prog 68 #[.string (bs s), strV [c]] w fun e w' => e = .returned (.int .i64 (numG s c)) ∧ Bw w w' := by
  have HC := Aside0.mk (fun W => Tryd.strings_CutPrefix (bs s) (bs [c]) W)
  obtain ⟨u, hu⟩ : ∃ u, u = Lib.trimPrefix s [c] := ⟨_, rfl⟩
  obtain ⟨b, hb⟩ : ∃ b, b = Lib.hasPrefix s [c] := ⟨_, rfl⟩
  rw [show Lib.trimPrefix (bs s).data.toList (bs [c]).data.toList = u from hu.symm, show Lib.hasPrefix (bs s).data.toList (bs [c]).data.toList = b from hb.symm] at HC
  have hul : u.length ≤ 1048576 := by rw [hu]; exact Nat.le_trans (trimP_le s c) hs
  have hsz : (bs u).size ≤ 1048576 := by rw [bs_size]; exact hul
  have HN0 : numG s c = match Lib.atoiAll u with | .ok v => if b = true then v else -1 | _ => -1 := by unfold numG; rw [← hu, ← hb]
  have HB := Aside0.mk (Bw.refl w)
  cases ha : Lib.atoiAll u with
  | «syntax» =>
    obtain ⟨tp, p, hv⟩ := he.syn
    have HA := Aside0.mk (Tryd.strconv_Atoi_syntax (bs u) (by omega) ha (.iface tp p) w hv (.inr ⟨tp, p, rfl⟩))
    rw [ha] at HN0
    have HN := Aside0.mk HN0
    clear he ha hv hsz HN0 hu hb hul hs
    cases b
    · go_enter Tryd.func68, Tryd.ntmps68
      go_wp2_with fail
      refine (HC.out _).mono ?_
      rintro e w1 ⟨rfl, rfl⟩
      go_wp2_with fail
      refine (HA.out).mono ?_
      rintro e w2 ⟨N, rfl, _, _, hb1⟩
      have HB := Aside0.mk (show Bw _ w2 from hb1)
      clear hb1
      go_wp2_with fail
      go_ret
      rw [HN.out]
      exact ⟨rfl, HB.out⟩
    · go_enter Tryd.func68, Tryd.ntmps68
      go_wp2_with fail
      refine (HC.out _).mono ?_
      rintro e w1 ⟨rfl, rfl⟩
      go_wp2_with fail
      refine (HA.out).mono ?_
      rintro e w2 ⟨N, rfl, _, _, hb1⟩
      have HB := Aside0.mk (show Bw _ w2 from hb1)
      clear hb1
      go_wp2_with fail
      go_ret
      rw [HN.out]
      exact ⟨rfl, HB.out⟩
  | range =>
    obtain ⟨tp, p, hv⟩ := he.rng
    have HA := Aside0.mk (Tryd.strconv_Atoi_range (bs u) (by omega) ha (.iface tp p) w hv (.inr ⟨tp, p, rfl⟩))
    obtain ⟨z, hz⟩ : ∃ z, z = Lib.atoiSat u := ⟨_, rfl⟩
    rw [show Lib.atoiSat (bs u).data.toList = z from hz.symm] at HA
    rw [ha] at HN0
    have HN := Aside0.mk HN0
    clear he ha hv hsz HN0 hu hb hul hs hz
    cases b
    · go_enter Tryd.func68, Tryd.ntmps68
      go_wp2_with fail
      refine (HC.out _).mono ?_
      rintro e w1 ⟨rfl, rfl⟩
      go_wp2_with fail
      refine (HA.out).mono ?_
      rintro e w2 ⟨N, rfl, _, _, hb1⟩
      have HB := Aside0.mk (show Bw _ w2 from hb1)
      clear hb1
      go_wp2_with fail
      go_ret
      rw [HN.out]
      exact ⟨rfl, HB.out⟩
    · go_enter Tryd.func68, Tryd.ntmps68
      go_wp2_with fail
      refine (HC.out _).mono ?_
      rintro e w1 ⟨rfl, rfl⟩
      go_wp2_with fail
      refine (HA.out).mono ?_
      rintro e w2 ⟨N, rfl, _, _, hb1⟩
      have HB := Aside0.mk (show Bw _ w2 from hb1)
      clear hb1
      go_wp2_with fail
      go_ret
      rw [HN.out]
      exact ⟨rfl, HB.out⟩
  | ok v =>
    have HA := Aside0.mk (show Calls Tryd.prog 85 #[.string (bs u)] w fun e w' => e = .returned (.tuple #[.int .i64 v, .nilIface]) ∧ Bw w w' from
      (Tryd.strconv_Atoi_ok (bs u) (by omega) v ha w).mono fun e w' ⟨h1, h2⟩ => ⟨h1, by rcases h2 with rfl | ⟨t, rfl⟩; exact Bw.refl _; exact Lib.bytesWorld_below w _ t⟩)
    rw [ha] at HN0
    dsimp only at HN0
    have HN := Aside0.mk HN0
    clear he ha hsz HN0 hu hb hul hs
    cases b
    · go_enter Tryd.func68, Tryd.ntmps68
      go_wp2_with fail
      refine (HC.out _).mono ?_
      rintro e w1 ⟨rfl, rfl⟩
      go_wp2_with fail
      refine (HA.out).mono ?_
      rintro e w2 ⟨rfl, hb2⟩
      go_wp2_with fail
      go_ret
      rw [HN.out]
      exact ⟨rfl, hb2⟩
    · go_enter Tryd.func68, Tryd.ntmps68
      go_wp2_with fail
      refine (HC.out _).mono ?_
      rintro e w1 ⟨rfl, rfl⟩
      go_wp2_with fail
      refine (HA.out).mono ?_
      rintro e w2 ⟨rfl, hb2⟩
      go_wp2_with fail
      go_ret
      rw [HN.out]
      exact ⟨rfl, hb2⟩
def stepOne (e : Rep) (i : Nat) (x : List UInt8) : Rep :=
  if i = 0 then ⟨e.k, numG x 103, e.o, e.t, e.p⟩
  else if i = 1 ∧ Lib.hasPrefix x [103] = true then ⟨e.k, e.g, numG x 103, e.t, e.p⟩
  else if Lib.hasPrefix x [116] = true then ⟨e.k, e.g, e.o, numG x 116, e.p⟩
  else ⟨e.k, e.g, e.o, e.t, numG x 112⟩
def foldOne (e : Rep) : Nat → List ByteArray → Rep
  | _, [] => e
  | i, x :: r => foldOne (stepOne e i x.data.toList) (i + 1) r
def wordsB (s : List UInt8) : List ByteArray := Lib.splitB (bs [32]) 0 (Lib.countB (bs s) (bs [32])) (bs s)
/-- The event of a line, as far as it goes. -/
def oneR (s : List UInt8) : Rep := match wordsB s with
  | [] => ⟨0, -1, -1, -1, -1⟩
  | x :: r => foldOne ⟨kindR x.data.toList, -1, -1, -1, -1⟩ 0 r
theorem wordsB_len (s : List UInt8) : (wordsB s).length = Lib.countB (bs s) (bs [32]) + 1 := Lib.splitB_all (bs [32]) (by rw [bs_size]; decide) 0 _ (bs s) rfl
theorem wordsB_le (s : List UInt8) : (wordsB s).length ≤ s.length + 1 := by
  rw [wordsB_len]
  have h2 := Lib.countB_le (bs [32]) (by rw [bs_size]; decide) _ (bs s) (Nat.le_refl _)
  rw [bs_size] at h2
  omega
theorem Split_calls (s : List UInt8) (w : World) (he : Env w) (hs : s.length ≤ 1048576) : Calls Tryd.prog 67 #[.string (bs s), .string (bs [32])] w fun e w' =>
    ∃ b, e = .returned (.slice (some ⟨b, 0, none⟩) (wordsB s).length (wordsB s).length) ∧ (∀ j x, (wordsB s)[j]? = some x → w'.cell? ⟨b, j, none⟩ = some (.string x)) ∧ Bw w w' := by
  obtain ⟨m, hm⟩ := he.mx
  refine (Tryd.strings_Split (bs s) (bs [32]) m w (by rw [bs_size]; omega) hm (by rw [bs_size]; decide)).mono ?_
  rintro e w' ⟨rfl, rfl⟩
  refine ⟨w.heap.size, by rw [wordsB_len], fun j x hj => ?_, (Bw.refl w).alloc _⟩
  have hb := Blk.new w (List.map Value.string (wordsB s)).toArray 9
  exact hb.cell j (.string x) (by rw [List.getElem?_toArray, List.getElem?_map, hj]; rfl)
theorem five_st {W : World} {b : Nat} {T : TypeId} {e : Rep} (h : Blk W b (encR e).toArray T) : W.cell? ⟨b, 0, none⟩ = some (.int .i64 e.k) ∧ W.cell? ⟨b, 1, none⟩ = some (.int .i64 e.g) ∧ W.cell? ⟨b, 2, none⟩ = some (.int .i64 e.o) ∧ W.cell? ⟨b, 3, none⟩ = some (.int .i64 e.t) ∧ W.cell? ⟨b, 4, none⟩ = some (.int .i64 e.p) ∧ (∀ i, W.frozen? ⟨b, i, none⟩ = false) ∧ b < W.heap.size :=
  ⟨h.cell 0 _ rfl, h.cell 1 _ rfl, h.cell 2 _ rfl, h.cell 3 _ rfl, h.cell 4 _ rfl, h.free, h.lt⟩
theorem res_rep {W : World} {b : Nat} {T : TypeId} {e : Rep} {tmps : Array Value} (h2 : tmps[2]?.getD undef = .pointer (some ⟨b, 0, none⟩)) (h : Blk W b (encR e).toArray T) :
    (results Tryd.f49 tmps).run Tryd.prog W = .ok (repV e) W := by
  obtain ⟨c0, c1, c2, c3, c4, _, _⟩ := five_st h
  simp [results, Tryd.results49, h2, c0, c1, c2, c3, c4, go_sem, repV]
set_option maxHeartbeats 1000000 in
theorem repOne_calls (s : List UInt8) (w : World) (he : EnvR w) (hs : s.length ≤ 1048576) : Calls Tryd.prog 49 #[.string (bs s)] w fun e w' => e = .returned (repV (oneR s)) ∧ Bw w w' := by
  obtain ⟨w0, hw0⟩ : ∃ w0, w0 = w.alloc (.cells #[.int .i64 0, .int .i64 0, .int .i64 0, .int .i64 0, .int .i64 0] 34) := ⟨_, rfl⟩
  have HB0 := Aside0.mk (show Bw w w0 by rw [hw0]; exact (Bw.refl w).alloc _)
  have HK0 := Aside0.mk (show Blk w0 w.heap.size #[.int .i64 0, .int .i64 0, .int .i64 0, .int .i64 0, .int .i64 0] 34 by rw [hw0]; exact Blk.new w _ _)
  have HE0 := Aside0.mk (he.bw HB0.out)
  have HS := Aside0.mk (Split_calls s w0 HE0.out.env hs)
  obtain ⟨L, hL⟩ : ∃ L, L = wordsB s := ⟨_, rfl⟩
  rw [← hL] at HS
  have hll : L.length ≤ 1048577 := by rw [hL]; have := wordsB_le s; omega
  have HXL := Aside0.mk (show ∀ x ∈ L, x.size ≤ 1048576 by rw [hL]; intro x hx; have := splitB_le _ _ _ _ x hx; exact Nat.le_trans this (by rw [bs_size]; exact hs))
  have hl1 : 1 ≤ L.length := by rw [hL, wordsB_len]; omega
  have HO : ∀ x R, L = x :: R → oneR s = foldOne ⟨kindR x.data.toList, -1, -1, -1, -1⟩ 0 R := by
    intro x R h
    unfold oneR
    rw [← hL, h]
  cases L with
  | nil => simp at hl1
  | cons x R =>
    obtain ⟨u, rfl⟩ : ∃ u, x = bs u := ⟨x.data.toList, rfl⟩
    have HO1 := Aside0.mk (show oneR s = foldOne ⟨kindR u, -1, -1, -1, -1⟩ 0 R from HO _ _ rfl)
    have HKD := Aside0.mk (fun W hW => Kind_calls u W hW)
    obtain ⟨K, hK⟩ : ∃ K, K = kindR u := ⟨_, rfl⟩
    rw [← hK] at HO1 HKD
    clear he HO hL hK hs
    simp only [List.length_cons] at hll hl1 HS
    go_enter Tryd.func49, Tryd.ntmps49
    go_wp2_with fail
    rw [← hw0]
    refine HS.out.mono ?_
    rintro e w1 ⟨b, rfl, hc, hb1⟩
    have HC := Aside0.mk hc
    have HB1 := Aside0.mk hb1
    have k0 : w1.cell? ⟨b, 0, none⟩ = some (.string (bs u)) := hc 0 _ rfl
    clear hc hb1 HS
    go_wp2_with fail
    refine (HKD.out _ (HE0.out.bw HB1.out)).mono ?_
    rintro e w2 ⟨rfl, hb2⟩
    have HB2 := Aside0.mk (HB1.out.trans hb2)
    have HC2 := Aside0.mk (show ∀ j x, R[j]? = some x → w2.cell? ⟨b, j + 1, none⟩ = some (.string x) from fun j x hj => hb2.kept (HC.out (j + 1) x (by rw [List.getElem?_cons_succ]; exact hj)))
    clear k0 hb2
    have HE2 := Aside0.mk (HE0.out.bw HB2.out)
    by_cases hR : R = []
    · subst hR
      have HF1 := Aside0.mk (show oneR s = ⟨K, -1, -1, -1, -1⟩ from HO1.out)
      simp only [List.length_nil, Nat.zero_add]
      go_wp2_with fail
      go_loopw [17] (fun iv wr => iv = .int .i64 0 ∧ Aside0 (Blk wr w2.heap.size (encR ⟨K, -1, -1, -1, -1⟩).toArray 34) ∧ Aside0 (Bw w2 wr)) (fun iv _ => 0)
      case atStart => exact ⟨rfl, ⟨Blk.new w2 _ _⟩, ⟨(Bw.refl w2).alloc _⟩⟩
      case round =>
        obtain ⟨rfl, HK, HW⟩ := hrel
        obtain ⟨e0, e1, e2, e3, e4, ef, el⟩ := five_st HK.out
        have HKR := Aside0.mk (HK0.out.bw (HB2.out.trans HW.out))
        obtain ⟨a0, a1, a2, a3, a4, af, al⟩ := five_st (e := ⟨0, 0, 0, 0, 0⟩) HKR.out
        go_wp2_with fail
        refine bodyPost_ret (res_rep (e := ⟨K, -1, -1, -1, -1⟩) rfl ((((((HKR.out.set 0 _).set 1 _).set 2 _).set 3 _).set 4 _))) rfl ⟨?_, ?_⟩
        · rw [HF1.out]
        · exact ((((((HB0.out.trans HB2.out).trans HW.out).setCell (Nat.le_refl _) _).setCell (Nat.le_refl _) _).setCell (Nat.le_refl _) _).setCell (Nat.le_refl _) _).setCell (Nat.le_refl _) _
    · have hR1 : 0 < R.length := List.length_pos_iff.2 hR
      have hR2 : ¬ R.length = 0 := by omega
      have hR3 : ¬ R = [] := hR
      have hR4 : decide (1 = R.length + 1) = false := decide_eq_false (by omega)
      have hR5 : ¬ (1 = R.length + 1) := by omega
      clear hR
      go_wp2_with fail
      go_loopw [17] (fun iv wr => ∃ (i : Nat) (e : Rep), i ≤ R.length ∧ iv = .int .i64 i ∧ Aside0 (Blk wr w2.heap.size (encR e).toArray 34) ∧ Aside0 (foldOne e i (R.drop i) = oneR s) ∧ Aside0 (Bw w2 wr)) (fun iv _ => R.length - (intOf iv).toNat)
      case atStart => exact ⟨0, ⟨K, -1, -1, -1, -1⟩, by omega, rfl, ⟨Blk.new w2 _ _⟩, ⟨HO1.out.symm⟩, ⟨(Bw.refl w2).alloc _⟩⟩
      case round =>
        obtain ⟨i, e, hi, rfl, HK, HF, HW⟩ := hrel
        by_cases hlt : i < R.length
        · obtain ⟨x, hx⟩ : ∃ x, R[i]? = some (bs x) := ⟨(R[i]).data.toList, by rw [List.getElem?_eq_getElem hlt]⟩
          have hc := HW.out.kept (HC2.out i _ hx)
          have hc' : wr.cell? ⟨b, 1 + i, none⟩ = some (.string (bs x)) := by rw [Nat.add_comm]; exact hc
          have hxl : x.length ≤ 1048576 := by have := HXL.out (bs x) (List.mem_cons_of_mem _ (List.mem_of_getElem? hx)); rwa [bs_size] at this
          have hFe : foldOne (stepOne e i x) (i + 1) (R.drop (i + 1)) = oneR s := by
            rw [← HF.out, show R.drop i = bs x :: R.drop (i + 1) by rw [List.drop_eq_getElem_cons hlt]; congr 1; exact Option.some.inj ((List.getElem?_eq_getElem hlt).symm.trans hx)]
            rfl
          have HNM := Aside0.mk (fun c W (hW : Env W) => repNumber_calls x c W hW hxl)
          have HPG := Aside0.mk (fun W => Tryd.strings_HasPrefix (bs x) (bs [103]) W)
          have HPT := Aside0.mk (fun W => Tryd.strings_HasPrefix (bs x) (bs [116]) W)
          have HXE := Aside0.mk hx
          unfold stepOne at hFe
          obtain ⟨pg, hpg⟩ : ∃ b, b = Lib.hasPrefix x [103] := ⟨_, rfl⟩
          obtain ⟨pt, hpt⟩ : ∃ b, b = Lib.hasPrefix x [116] := ⟨_, rfl⟩
          rw [← hpg, ← hpt] at hFe
          rw [show Lib.hasPrefix (bs x).data.toList (bs [103]).data.toList = pg from hpg.symm] at HPG
          rw [show Lib.hasPrefix (bs x).data.toList (bs [116]).data.toList = pt from hpt.symm] at HPT
          clear hx hxl hpg hpt
          by_cases h0 : i = 0
          · rw [if_pos h0] at hFe
            have HF1 := Aside0.mk hFe
            subst h0
            clear hFe
            go_wp2_with fail
            refine (HNM.out 103 _ ((HE2.out.bw HW.out)).env).mono ?_
            rintro e w5 ⟨rfl, hb5⟩
            have HW5 := Aside0.mk (HW.out.trans hb5)
            have HK5 := Aside0.mk (HK.out.bw hb5)
            clear hb5
            obtain ⟨e0, e1, e2, e3, e4, ef, el⟩ := five_st HK5.out
            go_wp2_with fail
            go_roundw
            case rel => exact ⟨1, ⟨e.k, numG x 103, e.o, e.t, e.p⟩, by omega, by go_num, ⟨HK5.out.set 1 _⟩, HF1, ⟨HW5.out.setCell (Nat.le_refl _) _⟩⟩
            case measure => simp [intOf]; omega
          · rw [if_neg h0] at hFe
            have d0 : (i == 0) = false := by simpa using h0
            by_cases h1 : i = 1 ∧ pg = true
            · rw [if_pos h1] at hFe
              obtain ⟨h1a, h1b⟩ := h1
              subst h1a
              subst h1b
              have HF1 := Aside0.mk hFe
              clear hFe h0
              go_wp2_with fail
              refine (HPG.out _).mono ?_
              rintro e w4 ⟨rfl, rfl⟩
              go_wp2_with fail
              refine (HNM.out 103 _ ((HE2.out.bw HW.out)).env).mono ?_
              rintro e w5 ⟨rfl, hb5⟩
              have HW5 := Aside0.mk (HW.out.trans hb5)
              have HK5 := Aside0.mk (HK.out.bw hb5)
              clear hb5
              obtain ⟨e0, e1, e2, e3, e4, ef, el⟩ := five_st HK5.out
              go_wp2_with fail
              go_roundw
              case rel => exact ⟨2, ⟨e.k, e.g, numG x 103, e.t, e.p⟩, by omega, by go_num, ⟨HK5.out.set 2 _⟩, HF1, ⟨HW5.out.setCell (Nat.le_refl _) _⟩⟩
              case measure => simp [intOf]; omega
            · rw [if_neg h1] at hFe
              have hcase : (i = 1 ∧ pg = false) ∨ i ≠ 1 := by by_cases h : i = 1; exact .inl ⟨h, by cases pg; rfl; exact absurd ⟨h, rfl⟩ h1⟩; exact .inr h
              clear h1
              rcases hcase with ⟨h1a, h1b⟩ | h1
              · subst h1a
                subst h1b
                cases pt
                · rw [if_neg (by decide)] at hFe
                  have HF1 := Aside0.mk hFe
                  clear hFe h0
                  go_wp2_with fail
                  refine (HPG.out _).mono ?_
                  rintro e w3 ⟨rfl, rfl⟩
                  go_wp2_with fail
                  refine (HPT.out _).mono ?_
                  rintro e w4 ⟨rfl, rfl⟩
                  go_wp2_with fail
                  refine (HNM.out 112 _ ((HE2.out.bw HW.out)).env).mono ?_
                  rintro e w5 ⟨rfl, hb5⟩
                  have HW5 := Aside0.mk (HW.out.trans hb5)
                  have HK5 := Aside0.mk (HK.out.bw hb5)
                  clear hb5
                  obtain ⟨e0, e1, e2, e3, e4, ef, el⟩ := five_st HK5.out
                  go_wp2_with fail
                  go_roundw
                  case rel => exact ⟨2, ⟨e.k, e.g, e.o, e.t, numG x 112⟩, by omega, by go_num, ⟨HK5.out.set 4 _⟩, HF1, ⟨HW5.out.setCell (Nat.le_refl _) _⟩⟩
                  case measure => simp [intOf]; omega
                · rw [if_pos rfl] at hFe
                  have HF1 := Aside0.mk hFe
                  clear hFe h0
                  go_wp2_with fail
                  refine (HPG.out _).mono ?_
                  rintro e w3 ⟨rfl, rfl⟩
                  go_wp2_with fail
                  refine (HPT.out _).mono ?_
                  rintro e w4 ⟨rfl, rfl⟩
                  go_wp2_with fail
                  refine (HNM.out 116 _ ((HE2.out.bw HW.out)).env).mono ?_
                  rintro e w5 ⟨rfl, hb5⟩
                  have HW5 := Aside0.mk (HW.out.trans hb5)
                  have HK5 := Aside0.mk (HK.out.bw hb5)
                  clear hb5
                  obtain ⟨e0, e1, e2, e3, e4, ef, el⟩ := five_st HK5.out
                  go_wp2_with fail
                  go_roundw
                  case rel => exact ⟨2, ⟨e.k, e.g, e.o, numG x 116, e.p⟩, by omega, by go_num, ⟨HK5.out.set 3 _⟩, HF1, ⟨HW5.out.setCell (Nat.le_refl _) _⟩⟩
                  case measure => simp [intOf]; omega
              · have d1 : (i == 1) = false := by simpa using h1
                cases pt
                · rw [if_neg (by decide)] at hFe
                  have HF1 := Aside0.mk hFe
                  clear hFe h0
                  go_wp2_with fail
                  refine (HPT.out _).mono ?_
                  rintro e w4 ⟨rfl, rfl⟩
                  go_wp2_with fail
                  refine (HNM.out 112 _ ((HE2.out.bw HW.out)).env).mono ?_
                  rintro e w5 ⟨rfl, hb5⟩
                  have HW5 := Aside0.mk (HW.out.trans hb5)
                  have HK5 := Aside0.mk (HK.out.bw hb5)
                  clear hb5
                  obtain ⟨e0, e1, e2, e3, e4, ef, el⟩ := five_st HK5.out
                  go_wp2_with fail
                  go_roundw
                  case rel => exact ⟨i + 1, ⟨e.k, e.g, e.o, e.t, numG x 112⟩, by omega, by go_num, ⟨HK5.out.set 4 _⟩, HF1, ⟨HW5.out.setCell (Nat.le_refl _) _⟩⟩
                  case measure => simp [intOf]; omega
                · rw [if_pos rfl] at hFe
                  have HF1 := Aside0.mk hFe
                  clear hFe h0
                  go_wp2_with fail
                  refine (HPT.out _).mono ?_
                  rintro e w4 ⟨rfl, rfl⟩
                  go_wp2_with fail
                  refine (HNM.out 116 _ ((HE2.out.bw HW.out)).env).mono ?_
                  rintro e w5 ⟨rfl, hb5⟩
                  have HW5 := Aside0.mk (HW.out.trans hb5)
                  have HK5 := Aside0.mk (HK.out.bw hb5)
                  clear hb5
                  obtain ⟨e0, e1, e2, e3, e4, ef, el⟩ := five_st HK5.out
                  go_wp2_with fail
                  go_roundw
                  case rel => exact ⟨i + 1, ⟨e.k, e.g, e.o, numG x 116, e.p⟩, by omega, by go_num, ⟨HK5.out.set 3 _⟩, HF1, ⟨HW5.out.setCell (Nat.le_refl _) _⟩⟩
                  case measure => simp [intOf]; omega
        · obtain rfl : i = R.length := by omega
          have HF1 := Aside0.mk (show oneR s = e by have := HF.out; rw [List.drop_length] at this; exact this.symm)
          obtain ⟨e0, e1, e2, e3, e4, ef, el⟩ := five_st HK.out
          have HKR := Aside0.mk (HK0.out.bw (HB2.out.trans HW.out))
          obtain ⟨a0, a1, a2, a3, a4, af, al⟩ := five_st (e := ⟨0, 0, 0, 0, 0⟩) HKR.out
          go_wp2_with fail
          refine bodyPost_ret (res_rep (e := e) rfl ((((((HKR.out.set 0 _).set 1 _).set 2 _).set 3 _).set 4 _))) rfl ⟨?_, ?_⟩
          · rw [HF1.out]
          · exact ((((((HB0.out.trans HB2.out).trans HW.out).setCell (Nat.le_refl _) _).setCell (Nat.le_refl _) _).setCell (Nat.le_refl _) _).setCell (Nat.le_refl _) _).setCell (Nat.le_refl _) _
end Go.Proofs.YtogpjimmcckkcaaDoor.M
