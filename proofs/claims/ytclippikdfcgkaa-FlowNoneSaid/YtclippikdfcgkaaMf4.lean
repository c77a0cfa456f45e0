/- Package flow: the functions that follow an access; the access that comes is done. Conditions: counters below 2^62, no more than a million answers. -/
import Derived.Test.YtclippikdfcgkaaMf3
import Derived.StillTailTactics
import Derived.Shelf.Abstract
namespace Go.Proofs.Ytclippikdfcgkaa.M
open Go.RowKit Go.Proofs.YtclippikdfcgkaaW.PrintWords Go.Proofs.YtclippikdfcgkaaW.PrintLast Go.Proofs.YtclippikdfcgkaaW.PrintMore
set_option linter.unusedVariables false
set_option linter.unusedSimpArgs false
section
variable {w w1 : World} {base b : Nat} {s : ChS} {tv : Value} {A : Option Addr} {cap : Nat} {vg : Value}
theorem KeepPost.after {S : ChS} {e : Ending} {w0 w' : World} (h : KeepPost w1 base b S vg e w') (hc : Chg (ChF b vg) w0 w1) : KeepPost w0 base b S vg e w' := by
  obtain ⟨he, tv, A, cap, vg', h1, h2, h3⟩ := h
  refine ⟨he, tv, A, cap, vg', h1, hc.trans h2, ?_⟩
  rcases h3 with h3 | ⟨k, h3, h4⟩
  · exact .inl h3
  · exact .inr ⟨k, h3, Nat.le_trans hc.size h4⟩
theorem KeepPost.fst {S : ChS} {e : Ending} {w' : World} (h : KeepPost w base b S vg e w') : e = .returned (.tuple #[]) := h.1
theorem swapped_calls (d : Bool) (h : IsChain w base b s tv A cap vg) (hk : s.kind = 0) (hl : s.got.length ≤ 1000000) :
    Calls Try.prog 141 #[.pointer (some ⟨b, 0, none⟩), .bool d] w (KeepPost w base b (goS { s with got := s.got ++ [if d = true then 1 else 0] } s.rest) vg) := by
  have HK := Aside0.mk (fun x => keep_calls x h hk hl)
  clear h hk
  cases d
  · go_enter Try.func141, Try.ntmps141
    go_wp2_with fail
    refine (HK.out 0).mono ?_
    intro e w1 hp
    obtain ⟨rfl, hrest⟩ := hp
    have HR := Aside0.mk hrest
    clear hrest
    go_wp2_with fail
    go_end0
    exact ⟨rfl, HR.out⟩
  · go_enter Try.func141, Try.ntmps141
    go_wp2_with fail
    refine (HK.out 1).mono ?_
    intro e w1 hp
    obtain ⟨rfl, hrest⟩ := hp
    have HR := Aside0.mk hrest
    clear hrest
    go_wp2_with fail
    refine bodyPost_ret (v := .tuple #[]) (by simp [results, Try.results141, go_sem]) rfl ⟨rfl, HR.out⟩
theorem goOn1_calls (q : Nat) (h : IsChain w base b s tv A cap vg) (hk : s.kind = 0) (hl : s.got.length ≤ 1000000) (hq : Blk w q #[.pointer (some ⟨b, 0, none⟩)] 115) :
    Calls Try.prog 139 #[.pointer (some ⟨q, 0, none⟩)] w (KeepPost w base b (goS { s with got := s.got ++ [0] } s.rest) vg) := by
  have HK := Aside0.mk (keep_calls 0 h hk hl)
  have c0 := hq.cell 0 _ rfl
  clear h hk hq
  go_enter Try.func139, Try.ntmps139
  go_wp2_with fail
  refine HK.out.mono ?_
  intro e w1 hp
  obtain ⟨rfl, hrest⟩ := hp
  have HR := Aside0.mk hrest
  clear hrest
  go_wp2_with fail
  go_end0
  exact ⟨rfl, HR.out⟩
theorem store1_calls (x : Int) (p q : Nat) (h : IsChain w base b s tv A cap vg) (hk : s.kind = 0) (hl : s.got.length ≤ 1000000) (hp : Blk w p #[.func (.func 139) #[] #[.pointer (some ⟨q, 0, none⟩)]] 1) (hq : Blk w q #[.pointer (some ⟨b, 0, none⟩)] 115) :
    Calls Try.prog 150 #[.int .u64 x, .pointer (some ⟨p, 0, none⟩)] w (KeepPost w base b (goS { s with got := s.got ++ [0] } s.rest) vg) := by
  have HK := Aside0.mk (goOn1_calls q h hk hl hq)
  have c0 := hp.cell 0 _ rfl
  clear h hk hp hq
  go_enter Try.func150, Try.ntmps150
  go_wp2_with fail
  refine HK.out.mono ?_
  intro e w1 hp
  obtain ⟨rfl, hrest⟩ := hp
  have HR := Aside0.mk hrest
  clear hrest
  go_wp2_with fail
  go_end0
  exact ⟨rfl, HR.out⟩
theorem swap1_calls (x : Int) (d : Bool) (p : Nat) (hd : (x == 1) = d) (h : IsChain w base b s tv A cap vg) (hk : s.kind = 0) (hl : s.got.length ≤ 1000000) (hp : Blk w p #[.func (.func 141) #[.pointer (some ⟨b, 0, none⟩)] #[]] 215) :
    Calls Try.prog 151 #[.int .u64 x, .pointer (some ⟨p, 0, none⟩)] w (KeepPost w base b (goS { s with got := s.got ++ [if d = true then 1 else 0] } s.rest) vg) := by
  have HK := Aside0.mk (swapped_calls d h hk hl)
  have c0 := hp.cell 0 _ rfl
  clear h hk hp
  cases d
  · go_enter Try.func151, Try.ntmps151
    go_wp2_with fail
    refine HK.out.mono ?_
    intro e w1 hp
    obtain ⟨rfl, hrest⟩ := hp
    have HR := Aside0.mk hrest
    clear hrest
    go_wp2_with fail
    go_end0
    exact ⟨rfl, HR.out⟩
  · go_enter Try.func151, Try.ntmps151
    go_wp2_with fail
    refine HK.out.mono ?_
    intro e w1 hp
    obtain ⟨rfl, hrest⟩ := hp
    have HR := Aside0.mk hrest
    clear hrest
    go_wp2_with fail
    go_end0
    exact ⟨rfl, HR.out⟩

set_option maxHeartbeats 2000000 in
set_option maxRecDepth 100000 in
theorem does_fl {mb bm : Nat} {vm : Value} {m : MemS} (h : IsChain w base b s tv A cap vg) (hm : IsMem w mb bm vm m) (ho : m.ok) (hw : 0 ≤ s.w) (hr : ∀ y ∈ m.words, 0 ≤ y) :
    Calls Try.prog 152 #[.pointer (some ⟨b, 0, none⟩), .pointer (some ⟨bm, 0, none⟩)] w fun e w' => e = .returned (.int .u64 (m.act (kindA s.kind) s.who s.at_ s.old s.w).2) ∧ IsMem w' mb bm vm (m.act (kindA s.kind) s.who s.at_ s.old s.w).1 ∧ Chg (MemF bm vm) w w' := by
  have k0 : w.cell? ⟨b, 0, none⟩ = some (.int .i64 s.who) := h.blk.cell 0 _ rfl
  have k1 : w.cell? ⟨b, 1, none⟩ = some (.int .i64 s.kind) := h.blk.cell 1 _ rfl
  have k2 : w.cell? ⟨b, 2, none⟩ = some (.int .i64 s.at_) := h.blk.cell 2 _ rfl
  have k3 : w.cell? ⟨b, 3, none⟩ = some (.int .u64 s.old) := h.blk.cell 3 _ rfl
  have k4 : w.cell? ⟨b, 4, none⟩ = some (.int .u64 s.w) := h.blk.cell 4 _ rfl
  have HM := Aside0.mk (hm.bw (Bw.refl w).drew)
  have CD := Aside0.mk ((Chg.refl (MemF bm vm) w).drew)
  have HRD := Aside0.mk (show 0 ≤ rd m.words s.at_ by
    unfold rd
    rw [List.getD_eq_getElem?_getD]
    rcases Nat.lt_or_ge s.at_.toNat m.words.length with hj | hj
    · rw [List.getElem?_eq_getElem hj]
      exact hr _ (List.getElem_mem _)
    · rw [List.getElem?_eq_none hj]
      exact Int.le_refl _)
  obtain ⟨who, kind, at_, old, x, asl, rest, got⟩ := s
  simp only at k0 k1 k2 k3 k4 HRD hw
  clear h hm hr
  by_cases h2 : kind = 2
  · subst h2
    have HA := Aside0.mk (show m.act (kindA 2) who at_ old x = (m.store who at_ x, 0) from rfl)
    go_enter Try.func152, Try.ntmps152
    go_wp2_with fail
    go_still_tail 13, (by kernel_rfl)
    change wpList _ _ _ _ _ w.drew
    go_wp2_with fail
    refine (Store_calls mb bm vm m who at_ x _ HM.out ho).mono ?_
    rintro e w1 ⟨rfl, hM1, hC1⟩
    have HM1 := Aside0.mk hM1
    have HC1 := Aside0.mk hC1
    clear hM1 hC1
    go_wp2_with fail
    go_ret
    rw [HA.out]
    exact ⟨rfl, HM1.out, CD.out.trans HC1.out⟩
  by_cases h3 : kind = 3
  · subst h3
    obtain ⟨dn, hdn⟩ : ∃ dn, dn = (m.swap who at_ old x).last.done := ⟨_, rfl⟩
    have HA := Aside0.mk (show m.act (kindA 3) who at_ old x = (m.swap who at_ old x, if dn = true then 1 else 0) by rw [hdn]; rfl)
    have HD := Aside0.mk hdn
    clear hdn
    cases dn
    · go_enter Try.func152, Try.ntmps152
      go_wp2_with fail
      go_still_tail 17, (by kernel_rfl)
      change wpList _ _ _ _ _ w.drew
      go_wp2_with fail
      refine (Swap_calls mb bm vm m who at_ old x _ HM.out ho).mono ?_
      rintro e w1 ⟨rfl, hM1, hC1⟩
      rw [← HD.out]
      have HM1 := Aside0.mk hM1
      have HC1 := Aside0.mk hC1
      clear hM1 hC1
      go_wp2_with fail
      go_ret
      rw [HA.out]
      exact ⟨rfl, HM1.out, CD.out.trans HC1.out⟩
    · go_enter Try.func152, Try.ntmps152
      go_wp2_with fail
      go_still_tail 17, (by kernel_rfl)
      change wpList _ _ _ _ _ w.drew
      go_wp2_with fail
      refine (Swap_calls mb bm vm m who at_ old x _ HM.out ho).mono ?_
      rintro e w1 ⟨rfl, hM1, hC1⟩
      rw [← HD.out]
      have HM1 := Aside0.mk hM1
      have HC1 := Aside0.mk hC1
      clear hM1 hC1
      go_wp2_with fail
      go_ret
      rw [HA.out]
      exact ⟨rfl, HM1.out, CD.out.trans HC1.out⟩
  by_cases h4 : kind = 4
  · subst h4
    have HA := Aside0.mk (show m.act (kindA 4) who at_ old x = m.add who at_ x from rfl)
    go_enter Try.func152, Try.ntmps152
    go_wp2_with fail
    go_still_tail 13, (by kernel_rfl)
    change wpList _ _ _ _ _ w.drew
    go_wp2_with fail
    refine (Add_calls mb bm vm m who at_ x _ HM.out ho hw HRD.out).mono ?_
    rintro e w1 ⟨rfl, hM1, hC1⟩
    have HM1 := Aside0.mk hM1
    have HC1 := Aside0.mk hC1
    clear hM1 hC1
    go_wp2_with fail
    go_ret
    rw [HA.out]
    exact ⟨rfl, HM1.out, CD.out.trans HC1.out⟩
  · have z2 : (kind == 2) = false := by simpa using h2
    have z3 : (kind == 3) = false := by simpa using h3
    have z4 : (kind == 4) = false := by simpa using h4
    have HA := Aside0.mk (show m.act (kindA kind) who at_ old x = (m.load who at_, (m.load who at_).last.old) by unfold kindA; rw [if_neg (by omega)]; rfl)
    clear h2 h3 h4
    go_enter Try.func152, Try.ntmps152
    go_wp2_with fail
    go_still_tail 9, (by kernel_rfl)
    change wpList _ _ _ _ _ w.drew
    go_wp2_with fail
    refine (Load_calls mb bm vm m who at_ _ HM.out ho).mono ?_
    rintro e w1 ⟨rfl, hM1, hC1⟩
    have HM1 := Aside0.mk hM1
    have HC1 := Aside0.mk hC1
    clear hM1 hC1
    go_wp2_with fail
    go_ret
    rw [HA.out]
    exact ⟨rfl, HM1.out, CD.out.trans HC1.out⟩
end
end Go.Proofs.Ytclippikdfcgkaa.M
