/- Agenda: container/heap's Push and Pop over a pile. Conditions: as in the texts before. -/
import Derived.Test.YtoklhhcjcecbbaaGi
namespace Go.Proofs.Ytoklhhcjcecbbaa.M
open Go.RowKit Go.Maps Go.Proofs.YtoklhhcjcecbbaaW.PrintWords Go.Proofs.YtoklhhcjcecbbaaW.PrintLast Go.Proofs.YtoklhhcjcecbbaaW.PrintMore
set_option linter.unusedVariables false
set_option linter.unusedSimpArgs false
def pushL (L : List It) (x : It) : List It := upL (L.length + 1) (L ++ [x]) L.length
/-- What stands behind a pop, the one that is taken last. -/
def popM (L : List It) : List It := (downL (L.length - 1) (swapL L 0 (L.length - 1) (L.getD 0 (0, 0)) (L.getD (L.length - 1) (0, 0))) (L.length - 1) 0).1
theorem popM_eq (L : List It) : popM L = (downL (L.length - 1) (swapL L 0 (L.length - 1) (L.getD 0 (0, 0)) (L.getD (L.length - 1) (0, 0))) (L.length - 1) 0).1 := rfl
theorem downL_len : ∀ (f : Nat) (L : List It) (n i : Nat), (downL f L n i).1.length = L.length
  | 0, L, n, i => rfl
  | f + 1, L, n, i => by
    rw [downL]
    split
    · rfl
    · split
      · split
        · rw [downL_len, swapL_len]
        · rfl
      · rfl
theorem popM_len (L : List It) : (popM L).length = L.length := by unfold popM; rw [downL_len, swapL_len]
theorem Chg.after {S S' : Nat → Prop} {a b c : World} (h : Chg S a b) (k : Chg S' b c) (hs : ∀ i, i < a.heap.size → S' i → S i) : Chg S a c :=
  ⟨k.os.trans h.os, k.tape.trans h.tape, k.output.trans h.output, Nat.le_trans h.size k.size, fun i hi hn => (k.block i (Nat.lt_of_lt_of_le hi h.size) fun q => hn (hs i hi q)).trans (h.block i hi hn)⟩
/-- What a pile's calls change. -/
def PlF (b mb : Nat) (v : Value) : Nat → Prop := fun j => j = b ∨ v.ownBlock = some j ∨ j = mb
section
variable {w w1 : World} {base b mb : Nat} {v : Value} {L : List It}
theorem IsPl.apart (h : IsPl w base b mb v L) : v.ownBlock ≠ some b ∧ b < w.heap.size := let ⟨_, h⟩ := h; ⟨h.apart.2.2, h.blk.lt⟩
set_option maxHeartbeats 2000000 in
set_option maxRecDepth 100000 in
theorem hPush_calls (h : IsPl w base b mb v L) (x : It) (hx : wfI x) (hk : ∀ z ∈ L, z.2 ≠ x.2) (hl : L.length < 1000000) (hbase : base ≤ w.heap.size) :
    Calls Try.prog 45 #[pileV b, .iface 30 (itV x)] w fun e w' => e = .returned (.tuple #[]) ∧ ∃ v', IsPl w' base b mb v' (pushL L x) ∧ Chg (PlF b mb v) w w' ∧ NewRow w v v' := by
  obtain ⟨D, hd⟩ := h
  have hm1 := mPush b
  have hm2 := mLen b
  have HP := Aside0.mk (pPush_calls hd x hx hk hl hbase)
  have hwl : wrap64 ((L.length : Int) + 1 - 1) = L.length := by simp [wrap64]; omega
  have hlen : (L ++ [x]).length = L.length + 1 := by simp
  clear hd hx hk
  go_enter Try.func45, Try.ntmps45
  go_wp2_with fail
  refine HP.out.mono ?_
  rintro e w1 ⟨rfl, v1, h1, c1, n1⟩
  have HN := Aside0.mk n1
  have H1 := Aside0.mk (show IsPl w1 base b mb v1 (L ++ [x]) from ⟨_, h1⟩)
  have C1 := Aside0.mk c1
  have HL := Aside0.mk (hLen H1.out)
  rw [hlen] at HL
  clear h1 c1 n1
  go_wp2_with fail
  refine HL.out.mono ?_
  rintro e w2 ⟨rfl, hb2⟩
  have H2 := Aside0.mk (H1.out.bw hb2)
  have C2 := Aside0.mk (C1.out.trans (Chg.of_bw hb2))
  clear hb2
  have HU := Aside0.mk (up_calls H2.out L.length (by rw [hlen]; omega))
  go_wp2_with fail
  refine HU.out.mono ?_
  rintro e w3 ⟨rfl, h3, c3⟩
  have H3 := Aside0.mk h3
  have C3 := Aside0.mk c3
  clear h3 c3
  go_wp2_with fail
  go_end0
  refine ⟨rfl, v1, H3.out, Chg.after (S := PlF b mb v) (b := w2) C2.out C3.out (fun i hi hj => ?_), HN.out⟩
  rcases hj with hj | hj
  · rcases HN.out with e | ⟨k, e, hk⟩
    · exact .inr (.inl (e ▸ hj))
    · have : k = i := Option.some.inj (e.symm.trans hj)
      omega
  · exact .inr (.inr hj)
set_option maxHeartbeats 2000000 in
set_option maxRecDepth 100000 in
theorem hPop_calls (h : IsPl w base b mb v L) (h0 : L ≠ []) :
    Calls Try.prog 46 #[pileV b] w fun e w' => e = .returned (.iface 30 (itV ((popM L).getD (L.length - 1) (0, 0)))) ∧ ∃ v', IsPl w' base b mb v' ((popM L).take (L.length - 1)) ∧ v'.ownBlock = v.ownBlock ∧ Chg (PlF b mb v) w w' := by
  have hm1 := mPop b
  have hm2 := mLen b
  have hm3 := mSwap b
  have H := Aside0.mk h
  have hpos : 0 < L.length := List.length_pos_iff.2 h0
  have hsm := h.small
  obtain ⟨n, hn⟩ : ∃ n, n = L.length - 1 := ⟨_, rfl⟩
  have hln : L.length = n + 1 := by omega
  have HL := Aside0.mk (hLen h)
  rw [hln] at HL
  obtain ⟨x, hx⟩ : ∃ x, L[0]? = some x := ⟨_, List.getElem?_eq_getElem hpos⟩
  obtain ⟨y, hy⟩ : ∃ y, L[n]? = some y := ⟨_, List.getElem?_eq_getElem (by omega)⟩
  have hgx : L.getD 0 (0, 0) = x := by rw [List.getD_eq_getElem?_getD, hx]; rfl
  have hgy : L.getD n (0, 0) = y := by rw [List.getD_eq_getElem?_getD, hy]; rfl
  have hpm : popM L = (downL n (swapL L 0 n x y) n 0).1 := by rw [popM_eq, ← hn, hgx, hgy]
  have HS := Aside0.mk (fun W (hW : IsPl W base b mb v L) => hSwap hW 0 n x y hx hy)
  have HD := Aside0.mk (fun W (hW : IsPl W base b mb v (swapL L 0 n x y)) => down_calls hW 0 n (by rw [swapL_len]; omega) (by omega))
  rw [← hpm] at HD
  have hpl := popM_len L
  obtain ⟨z, hz⟩ : ∃ z, (popM L)[n]? = some z := ⟨_, List.getElem?_eq_getElem (by omega)⟩
  have hsplit : popM L = (popM L).take n ++ [z] := by
    have h1 := List.take_add_one (l := popM L) (i := n)
    rw [hz, List.take_of_length_le (by omega)] at h1
    exact h1
  have HP := Aside0.mk (show ∀ W, IsPl W base b mb v (popM L) → Calls Try.prog 147 #[.pointer (some ⟨b, 0, none⟩)] W fun e w' => e = .returned (.iface 30 (itV z)) ∧ ∃ v', IsPl w' base b mb v' ((popM L).take n) ∧ v'.ownBlock = v.ownBlock ∧ Chg (fun j => j = b ∨ v.ownBlock = some j ∨ j = mb) W w' from fun W hW => by
    obtain ⟨D, hW⟩ := hW
    rw [hsplit] at hW
    exact (pPop_calls (L := (popM L).take n) z hW).mono fun e w' ⟨h1, v', h2, h3, h4⟩ => ⟨h1, v', ⟨_, h2⟩, h3, h4⟩)
  have hgz : (popM L).getD (L.length - 1) (0, 0) = z := by rw [← hn, List.getD_eq_getElem?_getD, hz]; rfl
  have htk : (popM L).take (L.length - 1) = (popM L).take n := by rw [← hn]
  have hwl : wrap64 ((n : Int) + 1 - 1) = n := by simp [wrap64]; omega
  have hwl2 : wrap64 (n : Int) = n := by simp [wrap64]; omega
  rw [hgz, htk]
  clear h hgx hgy hpm hsplit hgz htk hx hy hz h0 hpl hpos hsm hln hn
  generalize (popM L).take n = T at HP ⊢
  generalize (downL n (swapL L 0 n x y) n 0).2 = d at HD
  generalize popM L = P at HD HP
  generalize swapL L 0 n x y = M at HS HD
  generalize itV z = zV at HP ⊢
  go_enter Try.func46, Try.ntmps46
  go_wp2_with fail
  refine HL.out.mono ?_
  rintro e w1 ⟨rfl, hb1⟩
  have H1 := Aside0.mk (H.out.bw hb1)
  have C1 := Aside0.mk (Chg.of_bw hb1 : Chg (PlF b mb v) w w1)
  clear hb1
  go_wp2_with fail
  refine (HS.out _ H1.out).mono ?_
  rintro e w2 ⟨rfl, h2, c2⟩
  have H2 := Aside0.mk h2
  have C2 := Aside0.mk (C1.out.trans (c2.mono fun j hj => .inr hj))
  clear h2 c2
  go_wp2_with fail
  refine (HD.out _ H2.out).mono ?_
  rintro e w3 ⟨rfl, h3, c3⟩
  have H3 := Aside0.mk h3
  have C3 := Aside0.mk (C2.out.trans (c3.mono fun j hj => .inr hj))
  clear h3 c3
  go_wp2_with fail
  refine (HP.out _ H3.out).mono ?_
  rintro e w4 ⟨rfl, v4, h4, n4, c4⟩
  have H4 := Aside0.mk h4
  have C4 := Aside0.mk (C3.out.trans c4)
  have N4 := Aside0.mk n4
  clear h4 c4 n4
  go_wp2_with fail
  go_ret
  exact ⟨rfl, v4, H4.out, N4.out, C4.out⟩
end
end Go.Proofs.Ytoklhhcjcecbbaa.M
