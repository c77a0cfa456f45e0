/- Agenda: the law AgendaOrder. Conditions: the items are of their kind. -/
import Derived.Test.YtoklhhcjcecbbaaGo
namespace Go.Proofs.Ytoklhhcjcecbbaa.M
open Go.RowKit Go.Maps Go.Proofs.YtoklhhcjcecbbaaW.PrintWords Go.Proofs.YtoklhhcjcecbbaaW.PrintLast Go.Proofs.YtoklhhcjcecbbaaW.PrintMore
set_option linter.unusedVariables false
set_option linter.unusedSimpArgs false
theorem le_anti {a b : It} (h : le a b) (k : le b a) : a = b := by
  rw [le_iff] at h k
  obtain ⟨a1, a2⟩ := a
  obtain ⟨b1, b2⟩ := b
  simp only at h k
  have h1 : a1 = b1 := by omega
  have h2 : a2 = b2 := by omega
  rw [h1, h2]
theorem putR_perm : ∀ (l : List It) (x : It), (putR l x).Perm (x :: l)
  | [], x => List.Perm.refl _
  | a :: l, x => by
    rw [putR]
    split
    · exact List.Perm.refl _
    · exact ((putR_perm l x).cons a).trans (List.Perm.swap x a l)
theorem putR_sorted : ∀ (l : List It) (x : It), l.Pairwise le → (putR l x).Pairwise le
  | [], x, _ => by simp [putR]
  | a :: l, x, h => by
    rw [List.pairwise_cons] at h
    rw [putR]
    split
    · rename_i hb
      rw [List.pairwise_cons, List.pairwise_cons]
      refine ⟨fun y hy => ?_, h⟩
      rcases List.mem_cons.1 hy with rfl | hy
      · exact le_of_lt hb
      · exact le_trans (le_of_lt hb) (h.1 y hy)
    · rename_i hb
      rw [List.pairwise_cons]
      refine ⟨fun y hy => ?_, putR_sorted l x h.2⟩
      rcases List.mem_cons.1 ((putR_perm l x).mem_iff.1 hy) with rfl | hy
      · exact Bool.eq_false_iff.2 hb
      · exact h.1 y hy
theorem first_is {L : List It} {m h : It} {t : List It} (hh : HeapN L L.length) (hm : L[0]? = some m) (hp : L.Perm (h :: t)) (hs : (h :: t).Pairwise le) : m = h := by
  rw [List.pairwise_cons] at hs
  have h1 : m ∈ h :: t := hp.mem_iff.1 (List.mem_of_getElem? hm)
  have h2 : h ∈ L := hp.mem_iff.2 (by simp)
  obtain ⟨i, hi⟩ := List.mem_iff_getElem?.1 h2
  have h3 := heap_first hh hm i h hi
  rcases List.mem_cons.1 h1 with e | e
  · exact e
  · exact le_anti h3 (hs.1 m e)
theorem hasK_perm {L l : List It} (hp : L.Perm l) (k : Int) : hasK L k = hasK l k := by
  unfold hasK
  rw [Bool.eq_iff_iff, List.any_eq_true, List.any_eq_true]
  exact ⟨fun ⟨x, h, e⟩ => ⟨x, hp.mem_iff.1 h, e⟩, fun ⟨x, h, e⟩ => ⟨x, hp.mem_iff.2 h, e⟩⟩
section
variable {w w1 : World} {base ab b mb : Nat} {v : Value} {L : List It} {D : DataW Unit}
/-- The document's list, beside what an agenda changes. -/
theorem IsAg.keepR (h : IsAg w base ab b mb v L) {base' n : Nat} {u : Value} {xs : List Value} (hr : w.ownsRow base' 32 2 u n xs) (hc : Chg (PlF b mb v) w w1) : w1.ownsRow base' 32 2 u n xs := by
  obtain ⟨D, hd⟩ := h.pl
  refine own_of_block hr fun g hg => hc.block g (own_lt hr g hg) ?_
  rintro (e | e | e)
  · exact own_ne hr hd.blk (by decide) (by rw [hg, e])
  · exact ne_types hr hd.row (by decide) g hg e
  · obtain ⟨es, cl, h1, _⟩ := hd.map
    rcases hr.2 with ⟨e1, _⟩ | ⟨g', cap', cur, e1, _, hh, _⟩
    · rw [e1] at hg; simp [Value.ownBlock] at hg
    · rw [e1] at hg
      have hgi : g' = mb := by have : g' = g := by simpa [Value.ownBlock] using hg
                               omega
      rw [hgi, h1] at hh
      cases hh
set_option maxHeartbeats 4000000 in
set_option maxRecDepth 100000 in
theorem AgendaOrder_list (A : Option Addr) (cap : Nat) (xs : List It) (w : World) (hx : Rows encI 2 w A xs) (hw : ∀ x ∈ xs, wfI x) : Calls Try.prog 3 #[.slice A xs.length cap] w fun e w' => e = .returned (.bool true) ∧ Bw w w' := by
  have HX := Aside0.mk hx
  have HWF := Aside0.mk hw
  have hlm := hx.1
  have HA := Aside0.mk (fun W => aawake_calls W)
  by_cases h2 : xs.length ≤ 200
  · have d0 : decide ((200 : Int) < (xs.length : Int)) = false := decide_eq_false (by omega)
    clear hx hw
    go_enter Try.func3, Try.ntmps3
    go_wp2_with fail
    refine (agNew_calls w).mono ?_
    rintro e w1 ⟨ab, b, mb, rfl, h1, hb1⟩
    have H1 := Aside0.mk h1
    have Hb1 := Aside0.mk hb1
    clear h1 hb1
    go_wp2_with fail
    go_loopw [4, 5] (fun wv iv wr => ∃ (i : Nat) (wl : List It) (n : Nat) (v : Value) (L : List It), i ≤ xs.length ∧ iv = .int .i64 i ∧ n ≤ i ∧ wl.length = n ∧ L.length = n ∧ Aside0 (HeapN L L.length ∧ L.Perm wl ∧ wl.Pairwise le ∧ ∀ x ∈ wl, wfI x) ∧ Aside0 (wr.ownsRow w.heap.size 32 2 wv n (wl.flatMap encI)) ∧ Aside0 (IsAg wr w.heap.size ab b mb v L) ∧ Aside0 (Bw w wr)) (fun _ iv _ => xs.length - (intOf iv).toNat)
    case atStart => exact ⟨0, [], 0, _, [], by omega, rfl, by omega, rfl, rfl, ⟨fun c x y _ h => absurd h (Nat.not_lt_zero _), List.Perm.refl _, List.Pairwise.nil, by simp⟩, ⟨own_nil w1 _ _ _⟩, H1, Hb1⟩
    case round =>
      obtain ⟨i, wl, n, v, L, hi, rfl, hn, hwl, hL, HP, HO, HG, HB⟩ := hrel
      by_cases hlt : i < xs.length
      · obtain ⟨x, hy⟩ : ∃ y, xs[i]? = some y := ⟨_, List.getElem?_eq_getElem hlt⟩
        have HWX := Aside0.mk (HWF.out x (List.mem_of_getElem? hy))
        have HS := Aside0.mk (show ∀ W, Bw w W → ∃ ad, A = some ad ∧ W.cell? (ad.add (i * 2)) = some (.int .i64 x.1) ∧ W.cell? ⟨(ad.add (i * 2)).block, (ad.add (i * 2)).off + 1, none⟩ = some (.int .i64 x.2) from fun W hW => by
          obtain ⟨ad', hA, m0, mi⟩ := (HX.out.bw hW).atS i _ hy
          exact ⟨ad', hA, m0 _ rfl, mi 1 _ (by decide) rfl⟩)
        obtain ⟨ad, rfl, s0, s1⟩ := HS.out _ HB.out
        have HS := Aside0.mk (show ∀ W, Bw w W → W.cell? (ad.add (i * 2)) = some (.int .i64 x.1) ∧ W.cell? ⟨(ad.add (i * 2)).block, (ad.add (i * 2)).off + 1, none⟩ = some (.int .i64 x.2) from fun W hW => by
          obtain ⟨ad', hA, m0, m1⟩ := HS.out W hW
          obtain rfl := Option.some.inj hA
          exact ⟨m0, m1⟩)
        have PU := Aside0.mk (agPut_calls HG.out x HWX.out (by omega))
        obtain ⟨xa, xb⟩ := x
        clear hy
        cases hk : hasK L xb
        · have hkw := Aside0.mk ((hasK_perm HP.out.2.1 xb).symm.trans hk)
          rw [show hasK L (xa, xb).2 = false from hk] at PU
          simp only [Bool.false_eq_true, if_false] at PU
          clear hk
          go_wp2_with fail
          refine PU.out.mono ?_
          rintro e w2 ⟨rfl, v2, h2', s2⟩
          have HB2 := Aside0.mk (AgS.under (v' := v2) s2.chg HB.out (Nat.le_refl _) HG.out)
          have HO2 := Aside0.mk (HG.out.keepR HO.out s2.chg)
          have HG2 := Aside0.mk h2'
          obtain ⟨s0, s1⟩ := HS.out _ HB2.out
          clear h2' s2
          obtain ⟨B, c, hwv, hRB⟩ := ownR.rows (l := wl) (by unfold ownR; rw [hwl]; exact HO2.out)
          subst hwv
          have RP := Aside0.mk (refPut_calls B c wl (xa, xb) w2.drew (hRB.bw (Bw.refl w2).drew) (by omega))
          rw [hwl] at RP
          clear hRB
          go_wp2_with fail
          go_still_tail 12, (by kernel_rfl)
          change wpList _ _ _ _ _ w2.drew
          go_wp2_with fail
          refine RP.out.mono ?_
          rintro e w3 ⟨v3, rfl, h3, hb3⟩
          have h3' : w3.ownsRow w.heap.size 32 2 v3 (n + 1) ((putR wl (xa, xb)).flatMap encI) := by
            have := own_weaken h3 (show w.heap.size ≤ w2.drew.heap.size from HB2.out.size)
            rwa [putR_len, hwl] at this
          have HO3 := Aside0.mk h3'
          have HG3 := Aside0.mk (HG2.out.bw ((Bw.refl w2).drew.trans hb3))
          have HB3 := Aside0.mk (HB2.out.drew.trans hb3)
          have HPP := Aside0.mk (push_heap HP.out.1 (xa, xb))
          clear h3 h3' hb3
          go_wp2_with fail
          go_roundw
          case rel =>
            refine ⟨i + 1, putR wl (xa, xb), n + 1, v2, pushL L (xa, xb), by omega, by go_num, by omega, by rw [putR_len, hwl], ?_, ⟨HPP.out.1, (HPP.out.2.trans (HP.out.2.1.cons _)).trans (putR_perm wl (xa, xb)).symm, putR_sorted _ _ HP.out.2.2.1, fun y hy => ?_⟩, HO3, HG3, HB3⟩
            · rw [HPP.out.2.length_eq, List.length_cons, hL]
            · rcases List.mem_cons.1 ((putR_perm wl (xa, xb)).mem_iff.1 hy) with rfl | hy
              · exact HWX.out
              · exact HP.out.2.2.2 y hy
          case measure => simp [intOf]; omega
        · rw [show hasK L (xa, xb).2 = true from hk] at PU
          simp only [if_true] at PU
          clear hk
          go_wp2_with fail
          refine PU.out.mono ?_
          rintro e w2 ⟨rfl, v2, h2', s2⟩
          have HB2 := Aside0.mk (AgS.under (v' := v2) s2.chg HB.out (Nat.le_refl _) HG.out)
          have HO2 := Aside0.mk (HG.out.keepR HO.out s2.chg)
          have HG2 := Aside0.mk h2'
          clear h2' s2
          go_wp2_with fail
          go_roundw
          case rel => exact ⟨i + 1, wl, n, v2, L, by omega, by go_num, by omega, hwl, hL, HP, HO2, HG2, HB2⟩
          case measure => simp [intOf]; omega
      · obtain rfl : i = xs.length := by omega
        obtain ⟨B, c, hwv, hRB⟩ := ownR.rows (l := wl) (by unfold ownR; rw [hwl]; exact HO.out)
        subst hwv
        rw [hwl] at HO ⊢
        have OLD := Aside0.mk (fun j (hj : PlF b mb v j) => HG.out.old j hj)
        have OLA := Aside0.mk HG.out.blk.lt
        have HSZ := Aside0.mk HB.out.size
        clear hRB
        obtain ⟨wo, hwo⟩ : ∃ wo, wo = wr := ⟨_, rfl⟩
        subst hwo
        go_wp2_with fail
        go_loopw [6, 7] (fun gv jv wq => ∃ (k : Nat) (v' : Value) (L' : List It), k ≤ n ∧ jv = .int .i64 k ∧ Aside0 (HeapN L' L'.length ∧ L'.Perm (wl.drop k) ∧ v'.ownBlock = v.ownBlock) ∧ Aside0 (IsAg wq w.heap.size ab b mb v' L') ∧ Aside0 (wq.ownsRow wo.heap.size 30 2 gv k ((wl.take k).flatMap encI)) ∧ Aside0 (wq.ownsRow w.heap.size 32 2 (.slice B n c) n (wl.flatMap encI)) ∧ Aside0 (Bw w wq ∧ wo.heap.size ≤ wq.heap.size)) (fun _ jv _ => n - (intOf jv).toNat)
        case atStart => exact ⟨0, v, L, by omega, rfl, ⟨HP.out.1, HP.out.2.1, rfl⟩, HG, ⟨own_nil wo _ _ _⟩, HO, ⟨HB.out, Nat.le_refl _⟩⟩
        case round =>
          obtain ⟨k, v', L', hk, rfl, HP', HG', HT, HO', HB'⟩ := hrel
          by_cases hlt2 : k < n
          · obtain ⟨h, hh⟩ : ∃ h, wl[k]? = some h := ⟨_, List.getElem?_eq_getElem (by omega)⟩
            have hd : wl.drop k = h :: wl.drop (k + 1) := by
              rw [List.drop_eq_getElem_cons (by omega)]
              rw [List.getElem?_eq_getElem (by omega)] at hh
              rw [Option.some.inj hh]
            have hpl : L'.length = n - k := by rw [HP'.out.2.1.length_eq, List.length_drop, hwl]
            obtain ⟨m, hm⟩ : ∃ m, L'[0]? = some m := ⟨_, List.getElem?_eq_getElem (by omega)⟩
            obtain rfl : m = h := first_is HP'.out.1 hm (hd ▸ HP'.out.2.1) (hd ▸ HP.out.2.2.1.sublist (List.drop_sublist k wl))
            have HTK := Aside0.mk (show wl.take (k + 1) = wl.take k ++ [m] by rw [List.take_add_one, hh]; rfl)
            have hpop := pop_heap HP'.out.1 hm
            have HPP := Aside0.mk (show HeapN ((popM L').take (L'.length - 1)) ((popM L').take (L'.length - 1)).length ∧ ((popM L').take (L'.length - 1)).Perm (wl.drop (k + 1)) from ⟨hpop.1, by
              have := hpop.2.trans (hd ▸ HP'.out.2.1)
              exact this.cons_inv⟩)
            have PO := agPop_calls HG'.out m hm
            dsimp only [firstV, itV] at PO
            have PO := Aside0.mk PO
            generalize (popM L').take (L'.length - 1) = T' at PO HPP
            obtain ⟨ma, mb'⟩ := m
            dsimp only at PO
            clear hh hd hpl hm hpop
            go_wp2_with fail
            refine PO.out.mono ?_
            rintro e w2 ⟨rfl, v2, h2', n2, c2⟩
            have HB2 := Aside0.mk (AgS.under (v' := v2) c2 HB'.out.1 (Nat.le_refl _) HG'.out)
            have HO2 := Aside0.mk (HG'.out.keepR HO'.out c2)
            have HN2 := Aside0.mk (n2.trans HP'.out.2.2)
            have HT2 := Aside0.mk (own_of_block HT.out fun g hg => c2.block g (own_lt HT.out g hg) (fun e => by
              have h1 := own_from HT.out hg
              have h2 := OLD.out g (e.eq HP'.out.2.2)
              omega))
            have HG2 := Aside0.mk h2'
            have HS2 := Aside0.mk (Nat.le_trans HB'.out.2 c2.size)
            clear h2' c2 n2
            obtain ⟨x2, hx2⟩ : ∃ x2, x2 = w2.alloc (.cells #[.int .i64 ma, .int .i64 mb'] 30) := ⟨_, rfl⟩
            have HT3 := Aside0.mk (show x2.ownsRow wo.heap.size 30 2 u6 k ((wl.take k).flatMap encI) by rw [hx2]; exact HT2.out.alloc _)
            have HO3 := Aside0.mk (show x2.ownsRow w.heap.size 32 2 (.slice B n c) n (wl.flatMap encI) by rw [hx2]; exact HO2.out.alloc _)
            have HG3 := Aside0.mk (show IsAg x2 w.heap.size ab b mb v2 T' by rw [hx2]; exact HG2.out.bw ((Bw.refl w2).alloc _))
            have HB3 := Aside0.mk (show Bw w x2 by rw [hx2]; exact HB2.out.alloc _)
            have HS3 := Aside0.mk (show wo.heap.size ≤ x2.heap.size by rw [hx2]; have := HS2.out; simp; omega)
            rw [hx2] at HT3
            have hk2 : k ≤ 1000 := by omega
            go_wp2_with (at_builtin; go_loud (refine print_append_cells (w0 := w2.alloc (.cells #[.int .i64 ma, .int .i64 mb'] 30)) wo.heap.size rfl (.tmp 56) (.tmp 58) 22 30 (.agg #[.int .i64 0, .int .i64 0]) 2 16 rfl Try.underlying22 infoItem rfl (by omega) (by omega) u6 k _ [.int .i64 ma, .int .i64 mb'] rfl (by rw [show (w2.alloc (.cells #[.int .i64 ma, .int .i64 mb'] 30)).heap.size = w2.heap.size + 1 by simp]; rfl) rfl (by simp [Value.oneCell']) HT3.out (Below.refl _ _) (by rw [← hx2]; exact HS3.out) (by omega) ?_); intro v4 w4 hown4 hbel4 hg4 hat4)
            rw [← hx2] at HT3 hg4
            have C4 := Chg.of_grown hg4
            have HO4 := Aside0.mk (kept_ne HO3.out hg4 (ne_types HT3.out HO3.out (by decide)))
            have HG4 := Aside0.mk (HG3.out.keep C4 (fun e => by have h1 := own_from HT3.out e; have h2 := OLA.out; omega) (fun j hj e => by have h1 := own_from HT3.out e; have h2 := OLD.out j (hj.eq HN2.out); omega))
            have HB4 := Aside0.mk (C4.below HB3.out fun j hj => Nat.le_trans HSZ.out (own_from HT3.out hj))
            have HS4 := Aside0.mk (Nat.le_trans HS3.out C4.size)
            have HT4 := Aside0.mk hown4
            clear hown4 hg4 hat4 hbel4 C4 hx2
            go_wp2_with fail
            go_roundw
            case rel =>
              refine ⟨k + 1, v2, T', by omega, by go_num, ⟨HPP.out.1, HPP.out.2, HN2.out⟩, HG4, ⟨?_⟩, HO4, ⟨HB4.out, HS4.out⟩⟩
              rw [HTK.out, List.flatMap_append]
              exact HT4.out
            case measure => simp [intOf]; omega
          · have hkn : k = n := by omega
            have d1 : ¬ k < n := by omega
            have d2 : decide (k < n) = false := decide_eq_false d1
            have hnil : L' = [] := by
              have := HP'.out.2.1
              rw [List.drop_of_length_le (by omega)] at this
              exact this.eq_nil
            subst hnil
            have PO := agPop_empty HG'.out
            dsimp only [firstV, itV] at PO
            have PO := Aside0.mk PO
            have htk : wl.take k = wl := List.take_of_length_le (by omega)
            rw [htk, hkn] at HT
            obtain ⟨G, cg, hgv, hRG⟩ := Rows.own (enc := encI) (sz := 2) (xs := wl) (fun _ => rfl) HT.out hwl (own_len HT.out)
            obtain ⟨B', c', hbv, hRB⟩ := Rows.own (enc := encI) (sz := 2) (xs := wl) (fun _ => rfl) HO'.out hwl (own_len HO'.out)
            injection hbv with hbv1 hbv2 hbv3
            clear hbv2 hbv3
            subst hbv1
            subst hgv
            rw [hwl]
            have HRG := Aside0.mk hRG
            have HRB := Aside0.mk hRB
            clear hRG hRB
            clear htk hkn hlt2 hk
            go_wp2_with fail
            refine (PO.out).mono ?_
            rintro e w3 ⟨rfl, hb3⟩
            have HRG := Aside0.mk (HRG.out.bw hb3)
            have HRB := Aside0.mk (HRB.out.bw hb3)
            have HG3 := Aside0.mk (HG'.out.bw hb3)
            have HB3 := Aside0.mk (HB'.out.1.trans hb3)
            clear hb3
            have HL := Aside0.mk (fun W (hW : IsAg W w.heap.size ab b mb v' []) => agLen_calls hW)
            have HSM := Aside0.mk (fun W (h1 : Rows encI 2 W G wl) (h2 : Rows encI 2 W B wl) => same36_calls G B cg c wl W h1 h2 (by omega))
            rw [hwl] at HSM
            obtain ⟨x3, hx3⟩ : ∃ x3, x3 = w3.alloc (.cells #[.int .i64 0, .int .i64 0] 30) := ⟨_, rfl⟩
            have B3 := Aside0.mk (show Bw w3 x3 by rw [hx3]; exact (Bw.refl w3).alloc _)
            go_wp2_with fail
            rw [← hx3]
            refine (HA.out _).mono ?_
            rintro e w4 ⟨rfl, hb4⟩
            have B4 := Aside0.mk (B3.out.trans hb4)
            clear hb4
            go_wp2_with fail
            refine (HSM.out _ (HRG.out.bw B4.out) (HRB.out.bw B4.out)).mono ?_
            rintro e w5 ⟨rfl, hb5⟩
            have B5 := Aside0.mk (B4.out.trans hb5)
            clear hb5
            go_wp2_with fail
            refine (HL.out _ (HG3.out.bw B5.out)).mono ?_
            rintro e w6 ⟨rfl, hb6⟩
            have B6 := Aside0.mk (B5.out.trans hb6)
            clear hb6
            go_wp2_with fail
            go_ret
            exact ⟨rfl, HB3.out.trans B6.out⟩
  · have d0 : decide ((200 : Int) < (xs.length : Int)) = true := decide_eq_true (by omega)
    clear hx hw
    go_enter Try.func3, Try.ntmps3
    go_wp2_with fail
    refine (HA.out _).mono ?_
    rintro e w1 ⟨rfl, hb1⟩
    go_wp2_with fail
    go_ret
    exact ⟨rfl, hb1⟩
theorem AgendaOrder_walk (w : World) (a : Option Addr) (len cap : Nat) (h : RdRow [.int .i64, .int .i64] w a len cap) (y : len * 16 ≤ 140737488351232) :
    Calls Try.prog 3 #[.slice a len cap] w fun e w' => e = .returned (.bool true) ∧ Bw w w' := by
  obtain ⟨l, rfl, hx, hw⟩ := rd_pairs h
  exact AgendaOrder_list a cap l w hx hw
end
end Go.Proofs.Ytoklhhcjcecbbaa.M
