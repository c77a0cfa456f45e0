/- Agenda: container/heap's Fix and Remove over a pile. Conditions: as in the texts before. -/
import Derived.Test.YtoklhhcjcecbbaaGn
import Derived.Test.YtoklhhcjcecbbaaGl
namespace Go.Proofs.Ytoklhhcjcecbbaa.M
open Go.RowKit Go.Maps Go.Proofs.YtoklhhcjcecbbaaW.PrintWords Go.Proofs.YtoklhhcjcecbbaaW.PrintLast Go.Proofs.YtoklhhcjcecbbaaW.PrintMore
set_option linter.unusedVariables false
set_option linter.unusedSimpArgs false
/-- Put right at i, of the first n. -/
def midL (L : List It) (n i : Nat) : List It := if i < (downL n L n i).2 then (downL n L n i).1 else upL (i + 1) (downL n L n i).1 i
theorem midL_len (L : List It) (n i : Nat) : (midL L n i).length = L.length := by unfold midL; split <;> simp [upL_len, downL_len]
theorem midL_perm (L : List It) (n i : Nat) : (midL L n i).Perm L := by
  unfold midL
  split
  · exact down_perm _ _ _ _
  · exact (up_perm _ _ _).trans (down_perm _ _ _ _)
theorem up_above : ∀ (f : Nat) (L : List It) (i j : Nat), i < j → (upL f L i)[j]? = L[j]?
  | 0, L, i, j, _ => rfl
  | f + 1, L, i, j, hj => by
    rw [upL]
    split
    · rfl
    · split
      · rename_i x y hx hy
        split
        · rw [up_above f _ _ j (by omega), swapL_at hy hx, if_neg (by omega), if_neg (by omega)]
        · rfl
      · rfl
theorem mid_above {L : List It} {n i j : Nat} (hj : n ≤ j) (hi : i < n) : (midL L n i)[j]? = L[j]? := by
  unfold midL
  split
  · exact down_above _ _ _ _ _ hj hi
  · rw [up_above _ _ _ _ (by omega)]
    exact down_above _ _ _ _ _ hj hi
theorem mid_heap {L : List It} {n i : Nat} (h : Mid L n i) (hi : i < n) (hn : n ≤ L.length) : HeapN (midL L n i) n := by
  unfold midL
  rcases down_mid n L n i (by omega) hi hn h with ⟨h1, h2⟩ | ⟨h1, h2, h3⟩
  · rw [if_pos h1]; exact h2
  · rw [if_neg (by omega), h2]
    exact up_heap _ _ _ _ (by omega) hi hn h3
/-- Another one in a heap's place. -/
theorem mid_set {L : List It} {i : Nat} {x : It} (h : HeapN L L.length) (hx : L[i]? = some x) (y : It) : Mid (L.set i y) L.length i := by
  have hil := (List.getElem?_eq_some_iff.1 hx).1
  refine ⟨fun c u v c0 cn ci cp hu hv => ?_, fun c u v c0 cn cp hp hu hv => ?_⟩
  · rw [List.getElem?_set_ne (by omega)] at hu hv
    exact h c u v c0 cn hu hv
  · rw [List.getElem?_set_ne (by omega)] at hu hv
    exact le_trans (h i x v hp hil hx hv) (h c u x c0 cn hu (by rw [cp]; exact hx))
theorem mid_swap_last {L : List It} {i n : Nat} {x y : It} (h : HeapN L L.length) (hn : n + 1 = L.length) (hi : i < n) (hx : L[i]? = some x) (hy : L[n]? = some y) : Mid (swapL L i n x y) n i := by
  refine ⟨fun c u v c0 cn ci cp hu hv => ?_, fun c u v c0 cn cp hp hu hv => ?_⟩
  · rw [swapL_at hx hy, if_neg (by omega), if_neg (by omega)] at hu hv
    exact h c u v c0 (by omega) hu hv
  · rw [swapL_at hx hy, if_neg (by omega), if_neg (by omega)] at hu hv
    exact le_trans (h i x v hp (by omega) hx hv) (h c u x c0 (by omega) hu (by rw [cp]; exact hx))
/-- What stands behind a removal, the one that is taken last. -/
def remM (L : List It) (i : Nat) : List It := if L.length - 1 = i then L else midL (swapL L i (L.length - 1) (L.getD i (0, 0)) (L.getD (L.length - 1) (0, 0))) (L.length - 1) i
theorem remM_len (L : List It) (i : Nat) : (remM L i).length = L.length := by unfold remM; split <;> simp [midL_len, swapL_len]
theorem rem_heap {L : List It} (h : HeapN L L.length) {i : Nat} {x : It} (hx : L[i]? = some x) :
    HeapN ((remM L i).take (L.length - 1)) ((remM L i).take (L.length - 1)).length ∧ (x :: (remM L i).take (L.length - 1)).Perm L := by
  have hil := (List.getElem?_eq_some_iff.1 hx).1
  obtain ⟨n, hn⟩ : ∃ n, n = L.length - 1 := ⟨_, rfl⟩
  obtain ⟨y, hy⟩ := getLt (L := L) (i := n) (by omega)
  have hgx : L.getD i (0, 0) = x := by rw [List.getD_eq_getElem?_getD, hx]; rfl
  have hgy : L.getD n (0, 0) = y := by rw [List.getD_eq_getElem?_getD, hy]; rfl
  have hlen := remM_len L i
  have key : (remM L i)[n]? = some x ∧ (remM L i).Perm L ∧ HeapN (remM L i) n := by
    unfold remM
    rw [← hn]
    by_cases hni : n = i
    · rw [if_pos hni]
      subst hni
      exact ⟨hx, List.Perm.refl _, fun c u v c0 cn hu hv => h c u v c0 (by omega) hu hv⟩
    · rw [if_neg hni, hgx, hgy]
      refine ⟨?_, (midL_perm _ _ _).trans (swapL_perm hx hy), mid_heap (mid_swap_last h (by omega) (by omega) hx hy) (by omega) (by rw [swapL_len]; omega)⟩
      rw [mid_above (Nat.le_refl _) (by omega), swapL_at hx hy, if_pos rfl]
  obtain ⟨hlast, hperm, hheap⟩ := key
  have hsplit : remM L i = (remM L i).take n ++ [x] := by
    have h1 := List.take_add_one (l := remM L i) (i := n)
    rw [hlast, List.take_of_length_le (by omega)] at h1
    exact h1
  rw [← hn]
  have htl : ((remM L i).take n).length = n := by rw [List.length_take]; omega
  refine ⟨?_, ?_⟩
  · rw [htl]
    intro c u v c0 cn hu hv
    rw [List.getElem?_take, if_pos (by omega)] at hu hv
    exact hheap c u v c0 cn hu hv
  · refine List.Perm.trans ?_ hperm
    refine (List.perm_append_comm (l₁ := [x]) (l₂ := (remM L i).take n)).trans ?_
    rw [← hsplit]
section
variable {w w1 : World} {base ab b mb : Nat} {v : Value} {L : List It} {D : DataW Unit}
set_option maxHeartbeats 2000000 in
set_option maxRecDepth 100000 in
theorem hFix_calls (h : IsPl w base b mb v L) (i : Nat) (hi : i < L.length) :
    Calls Try.prog 54 #[pileV b, .int .i64 (i : Int)] w fun e w' => e = .returned (.tuple #[]) ∧ IsPl w' base b mb v (midL L L.length i) ∧ Chg (PlF b mb v) w w' := by
  have hm2 := mLen b
  have H := Aside0.mk h
  have HL := Aside0.mk (hLen h)
  have HD := Aside0.mk (fun W (hW : IsPl W base b mb v L) => down_calls hW i L.length (Nat.le_refl _) (Nat.le_of_lt hi))
  have hdl := downL_len L.length L L.length i
  have HU := Aside0.mk (fun W (hW : IsPl W base b mb v (downL L.length L L.length i).1) => up_calls hW i (by rw [hdl]; exact hi))
  have HM := Aside0.mk (show midL L L.length i = if i < (downL L.length L L.length i).2 then (downL L.length L L.length i).1 else upL (i + 1) (downL L.length L L.length i).1 i from rfl)
  clear h hdl
  generalize (downL L.length L L.length i).2 = d at HD HM
  generalize (downL L.length L L.length i).1 = M at HD HM HU
  generalize upL (i + 1) M i = U at HU HM
  generalize midL L L.length i = R at HM ⊢
  cases hd : decide (i < d)
  · have hR := Aside0.mk (show R = U by rw [HM.out, if_neg (of_decide_eq_false hd)])
    rw [hd] at HD
    clear hd HM
    go_enter Try.func54, Try.ntmps54
    go_wp2_with fail
    refine HL.out.mono ?_
    rintro e w1 ⟨rfl, hb1⟩
    have H1 := Aside0.mk (H.out.bw hb1)
    have C1 := Aside0.mk (Chg.of_bw hb1 : Chg (PlF b mb v) w w1)
    clear hb1
    go_wp2_with fail
    refine (HD.out _ H1.out).mono ?_
    rintro e w2 ⟨rfl, h2, c2⟩
    have H2 := Aside0.mk h2
    have C2 := Aside0.mk (C1.out.trans (c2.mono fun j hj => .inr hj))
    clear h2 c2
    go_wp2_with fail
    refine (HU.out _ H2.out).mono ?_
    rintro e w3 ⟨rfl, h3, c3⟩
    have H3 := Aside0.mk h3
    have C3 := Aside0.mk (C2.out.trans (c3.mono fun j hj => .inr hj))
    clear h3 c3
    go_wp2_with fail
    go_end0
    rw [hR.out]
    exact ⟨rfl, H3.out, C3.out⟩
  · have hR := Aside0.mk (show R = M by rw [HM.out, if_pos (of_decide_eq_true hd)])
    rw [hd] at HD
    clear hd HM HU
    go_enter Try.func54, Try.ntmps54
    go_wp2_with fail
    refine HL.out.mono ?_
    rintro e w1 ⟨rfl, hb1⟩
    have H1 := Aside0.mk (H.out.bw hb1)
    have C1 := Aside0.mk (Chg.of_bw hb1 : Chg (PlF b mb v) w w1)
    clear hb1
    go_wp2_with fail
    refine (HD.out _ H1.out).mono ?_
    rintro e w2 ⟨rfl, h2, c2⟩
    have H2 := Aside0.mk h2
    have C2 := Aside0.mk (C1.out.trans (c2.mono fun j hj => .inr hj))
    clear h2 c2
    go_wp2_with fail
    go_end0
    rw [hR.out]
    exact ⟨rfl, H2.out, C2.out⟩
set_option maxHeartbeats 4000000 in
set_option maxRecDepth 100000 in
theorem hRemove_calls (h : IsPl w base b mb v L) (i : Nat) (hi : i < L.length) :
    Calls Try.prog 53 #[pileV b, .int .i64 (i : Int)] w fun e w' => ∃ z, e = .returned z ∧ ∃ v', IsPl w' base b mb v' ((remM L i).take (L.length - 1)) ∧ v'.ownBlock = v.ownBlock ∧ Chg (PlF b mb v) w w' := by
  have hm1 := mPop b
  have hm2 := mLen b
  have hm3 := mSwap b
  have H := Aside0.mk h
  have hsm := h.small
  obtain ⟨n, hn⟩ : ∃ n, n = L.length - 1 := ⟨_, rfl⟩
  have hln : L.length = n + 1 := by omega
  have HL := Aside0.mk (hLen h)
  rw [hln] at HL
  obtain ⟨x, hx⟩ : ∃ x, L[i]? = some x := ⟨_, List.getElem?_eq_getElem hi⟩
  obtain ⟨y, hy⟩ : ∃ y, L[n]? = some y := ⟨_, List.getElem?_eq_getElem (by omega)⟩
  have hgx : L.getD i (0, 0) = x := by rw [List.getD_eq_getElem?_getD, hx]; rfl
  have hgy : L.getD n (0, 0) = y := by rw [List.getD_eq_getElem?_getD, hy]; rfl
  have hpl := remM_len L i
  obtain ⟨z, hz⟩ : ∃ z, (remM L i)[n]? = some z := ⟨_, List.getElem?_eq_getElem (by omega)⟩
  have hsplit : remM L i = (remM L i).take n ++ [z] := by
    have h1 := List.take_add_one (l := remM L i) (i := n)
    rw [hz, List.take_of_length_le (by omega)] at h1
    exact h1
  have HP := Aside0.mk (show ∀ W, IsPl W base b mb v (remM L i) → Calls Try.prog 147 #[.pointer (some ⟨b, 0, none⟩)] W fun e w' => e = .returned (.iface 30 (itV z)) ∧ ∃ v', IsPl w' base b mb v' ((remM L i).take n) ∧ v'.ownBlock = v.ownBlock ∧ Chg (fun j => j = b ∨ v.ownBlock = some j ∨ j = mb) W w' from fun W hW => by
    obtain ⟨D, hW⟩ := hW
    rw [hsplit] at hW
    exact (pPop_calls (L := (remM L i).take n) z hW).mono fun e w' ⟨h1, v', h2, h3, h4⟩ => ⟨h1, v', ⟨_, h2⟩, h3, h4⟩)
  have htk : (remM L i).take (L.length - 1) = (remM L i).take n := by rw [← hn]
  have hwl : wrap64 ((n : Int) + 1 - 1) = n := by simp [wrap64]; omega
  have hwl2 : wrap64 (n : Int) = n := by simp [wrap64]; omega
  rw [htk]
  by_cases hni : n = i
  · have hrm : remM L i = L := by unfold remM; rw [← hn, if_pos hni]
    rw [hrm] at HP ⊢
    have hq : ((n : Int) == (i : Int)) = true := by rw [beq_iff_eq]; omega
    have hqb : ((n : Int) != (i : Int)) = false := by simp [bne, hq]
    clear h hgx hgy hsplit htk hx hy hz hpl hsm hln hn hrm
    subst hni
    generalize L.take n = T at HP ⊢
    generalize itV z = zV at HP
    go_enter Try.func53, Try.ntmps53
    go_wp2_with fail
    refine HL.out.mono ?_
    rintro e w1 ⟨rfl, hb1⟩
    have H1 := Aside0.mk (H.out.bw hb1)
    have C1 := Aside0.mk (Chg.of_bw hb1 : Chg (PlF b mb v) w w1)
    clear hb1
    go_wp2_with fail
    refine (HP.out _ H1.out).mono ?_
    rintro e w4 ⟨rfl, v4, h4, n4, c4⟩
    have H4 := Aside0.mk h4
    have C4 := Aside0.mk (C1.out.trans c4)
    have N4 := Aside0.mk n4
    clear h4 c4 n4
    go_wp2_with fail
    go_ret
    exact ⟨_, rfl, v4, H4.out, N4.out, C4.out⟩
  · have hq : ((n : Int) == (i : Int)) = false := by rw [beq_eq_false_iff_ne]; omega
    have hqb : ((n : Int) != (i : Int)) = true := by simp [bne, hq]
    have hpm : remM L i = midL (swapL L i n x y) n i := by unfold remM; rw [← hn, if_neg hni, hgx, hgy]
    have HS := Aside0.mk (fun W (hW : IsPl W base b mb v L) => hSwap hW i n x y hx hy)
    have HD := Aside0.mk (fun W (hW : IsPl W base b mb v (swapL L i n x y)) => down_calls hW i n (by rw [swapL_len]; omega) (by omega))
    have hdl := downL_len n (swapL L i n x y) n i
    have HU := Aside0.mk (fun W (hW : IsPl W base b mb v (downL n (swapL L i n x y) n i).1) => up_calls hW i (by rw [hdl, swapL_len]; exact hi))
    have HM := Aside0.mk (show remM L i = if i < (downL n (swapL L i n x y) n i).2 then (downL n (swapL L i n x y) n i).1 else upL (i + 1) (downL n (swapL L i n x y) n i).1 i from hpm)
    have hnn : ¬ n = i := hni
    clear h hgx hgy hpm hsplit htk hx hy hz hpl hsm hln hn hdl
    generalize (remM L i).take n = T at HP ⊢
    generalize (downL n (swapL L i n x y) n i).2 = d at HD HM
    generalize (downL n (swapL L i n x y) n i).1 = M at HD HM HU
    generalize upL (i + 1) M i = U at HU HM
    generalize remM L i = P at HM HP
    generalize swapL L i n x y = S at HS HD
    generalize itV z = zV at HP
    cases hd : decide (i < d)
    · have hR : P = U := by rw [HM.out, if_neg (of_decide_eq_false hd)]
      subst hR
      rw [hd] at HD
      clear hd HM
      go_enter Try.func53, Try.ntmps53
      go_wp2_with fail
      refine HL.out.mono ?_
      rintro e w1 ⟨rfl, hb1⟩
      have H1 := Aside0.mk (H.out.bw hb1)
      have C1 := Aside0.mk (Chg.of_bw hb1 : Chg (PlF b mb v) w w1)
      clear hb1
      go_wp2_with fail
      refine (HS.out _ H1.out).mono ?_
      rintro e w2 ⟨rfl, h2, c2⟩
      have H2 := Aside0.mk h2
      have C2 := Aside0.mk (C1.out.trans (c2.mono fun j hj => .inr hj))
      clear h2 c2
      go_wp2_with fail
      refine (HD.out _ H2.out).mono ?_
      rintro e w3 ⟨rfl, h3, c3⟩
      have H3 := Aside0.mk h3
      have C3 := Aside0.mk (C2.out.trans (c3.mono fun j hj => .inr hj))
      clear h3 c3
      go_wp2_with fail
      refine (HU.out _ H3.out).mono ?_
      rintro e w5 ⟨rfl, h5, c5⟩
      have H5 := Aside0.mk h5
      have C5 := Aside0.mk (C3.out.trans (c5.mono fun j hj => .inr hj))
      clear h5 c5
      go_wp2_with fail
      refine (HP.out _ H5.out).mono ?_
      rintro e w4 ⟨rfl, v4, h4, n4, c4⟩
      have H4 := Aside0.mk h4
      have C4 := Aside0.mk (C5.out.trans c4)
      have N4 := Aside0.mk n4
      clear h4 c4 n4
      go_wp2_with fail
      go_ret
      exact ⟨_, rfl, v4, H4.out, N4.out, C4.out⟩
    · have hR : P = M := by rw [HM.out, if_pos (of_decide_eq_true hd)]
      subst hR
      rw [hd] at HD
      clear hd HM HU
      go_enter Try.func53, Try.ntmps53
      go_wp2_with fail
      refine HL.out.mono ?_
      rintro e w1 ⟨rfl, hb1⟩
      have H1 := Aside0.mk (H.out.bw hb1)
      have C1 := Aside0.mk (Chg.of_bw hb1 : Chg (PlF b mb v) w w1)
      clear hb1
      go_wp2_with fail
      refine (HS.out _ H1.out).mono ?_
      rintro e w2 ⟨rfl, h2, c2⟩
      have H2 := Aside0.mk h2
      have C2 := Aside0.mk (C1.out.trans (c2.mono fun j hj => .inr hj))
      clear h2 c2
      go_wp2_with fail
      refine (HD.out _ H2.out).mono ?_
      rintro e w3 ⟨rfl, h3, c3⟩
      have H3 := Aside0.mk h3
      have C3 := Aside0.mk (C2.out.trans (c3.mono fun j hj => .inr hj))
      clear h3 c3
      go_wp2_with fail
      refine (HP.out _ H3.out).mono ?_
      rintro e w4 ⟨rfl, v4, h4, n4, c4⟩
      have H4 := Aside0.mk h4
      have C4 := Aside0.mk (C3.out.trans c4)
      have N4 := Aside0.mk n4
      clear h4 c4 n4
      go_wp2_with fail
      go_ret
      exact ⟨_, rfl, v4, H4.out, N4.out, C4.out⟩
end
end Go.Proofs.Ytoklhhcjcecbbaa.M
