/- Package flow: what Done, Asleep, Step and Got answer of a chain. Conditions: counters below 2^62, no more than a million answers. -/
import Derived.Test.YtclippikdfcgkaaMf5
namespace Go.Proofs.Ytclippikdfcgkaa.M
open Go.RowKit Go.Proofs.YtclippikdfcgkaaW.PrintWords Go.Proofs.YtclippikdfcgkaaW.PrintLast Go.Proofs.YtclippikdfcgkaaW.PrintMore
set_option linter.unusedVariables false
set_option linter.unusedSimpArgs false
section
variable {w w1 : World} {base b : Nat} {s : ChS} {tv : Value} {A : Option Addr} {cap : Nat} {vg : Value} {mb bm : Nat} {vm : Value} {m : MemS}
set_option maxHeartbeats 1000000 in
theorem fDone_calls (b : Nat) (k : Int) (w : World) (k1 : w.cell? ⟨b, 1, none⟩ = some (.int .i64 k)) (k7 : w.cell? ⟨b, 7, none⟩ = some Value.nilIface) :
    Calls Try.prog 120 #[.pointer (some ⟨b, 0, none⟩)] w fun e w' => e = .returned (.bool (k == 0)) ∧ Bw w w' := by
  have HB := Aside0.mk (Bw.refl w)
  cases e1 : (k == 0)
  · go_enter Try.func120, Try.ntmps120
    go_wp2_with fail
    go_ret
    exact ⟨rfl, HB.out⟩
  · go_enter Try.func120, Try.ntmps120
    go_wp2_with fail
    go_ret
    exact ⟨rfl, HB.out⟩
set_option maxHeartbeats 1000000 in
theorem cDone_calls (b : Nat) (k : Int) (w : World) (k1 : w.cell? ⟨b, 1, none⟩ = some (.int .i64 k)) (k7 : w.cell? ⟨b, 7, none⟩ = some Value.nilIface) :
    Calls Try.prog 69 #[.pointer (some ⟨b, 0, none⟩)] w fun e w' => e = .returned (.bool (k == 0)) ∧ Bw w w' := by
  have HB := Aside0.mk (Bw.refl w)
  have HD := Aside0.mk (fDone_calls b k w k1 k7)
  clear k1 k7
  go_enter Try.func69, Try.ntmps69
  go_wp2_with fail
  refine HD.out.mono ?_
  rintro e w1 ⟨rfl, hb1⟩
  have HB1 := Aside0.mk hb1
  clear hb1
  go_wp2_with fail
  go_ret
  exact ⟨rfl, HB1.out⟩
set_option maxHeartbeats 1000000 in
theorem cDone_nil (w : World) : Calls Try.prog 69 #[.pointer none] w fun e w' => e = .returned (.bool true) ∧ Bw w w' := by
  have HB := Aside0.mk (Bw.refl w)
  go_enter Try.func69, Try.ntmps69
  go_wp2_with fail
  go_ret
  exact ⟨rfl, HB.out⟩
set_option maxHeartbeats 1000000 in
theorem cAsleep_nil (m : Value) (w : World) : Calls Try.prog 70 #[.pointer none, m] w fun e w' => e = .returned (.bool false) ∧ Bw w w' := by
  have HB := Aside0.mk (Bw.refl w)
  go_enter Try.func70, Try.ntmps70
  go_wp2_with fail
  go_ret
  exact ⟨rfl, HB.out⟩
set_option maxHeartbeats 1000000 in
theorem cStep_nil (m : Value) (w : World) : Calls Try.prog 72 #[.pointer none, m] w fun e w' => e = .returned (.bool true) ∧ Bw w w' := by
  have HB := Aside0.mk (Bw.refl w)
  go_enter Try.func72, Try.ntmps72
  go_wp2_with fail
  go_ret
  exact ⟨rfl, HB.out⟩
set_option maxHeartbeats 1000000 in
theorem cGot_nil (w : World) : Calls Try.prog 73 #[.pointer none] w fun e w' => e = .returned (.slice none 0 0) ∧ Bw w w' := by
  have HB := Aside0.mk (Bw.refl w)
  go_enter Try.func73, Try.ntmps73
  go_wp2_with fail
  go_ret
  exact ⟨rfl, HB.out⟩
set_option maxHeartbeats 1000000 in
set_option maxRecDepth 100000 in
theorem fAsleep_calls (b : Nat) (k a : Int) (asl : Bool) (w : World) (hm : IsMem w mb bm vm m) (k1 : w.cell? ⟨b, 1, none⟩ = some (.int .i64 k)) (k2 : w.cell? ⟨b, 2, none⟩ = some (.int .i64 a)) (k6 : w.cell? ⟨b, 6, none⟩ = some (.bool asl)) (k7 : w.cell? ⟨b, 7, none⟩ = some Value.nilIface) :
    Calls Try.prog 121 #[.pointer (some ⟨b, 0, none⟩), .pointer (some ⟨bm, 0, none⟩)] w fun e w' => e = .returned (.bool (k == 5 && asl && (m.peek a).1 == 0)) ∧ Bw w w' := by
  have HB := Aside0.mk (Bw.refl w)
  have HP := Aside0.mk (Peek_calls mb bm vm m a w hm)
  have ta : ∀ w, (Instr.typeAssert Value.nilIface 180 219 true).run Try.prog w = .ok (.tuple #[Value.nilIface, .bool false]) w := fun w => by kernel_rfl
  clear hm
  cases e1 : (k == 5)
  · go_enter Try.func121, Try.ntmps121
    go_wp2_with fail
    refine HP.out.mono ?_
    rintro e w1 ⟨rfl, hb1⟩
    have HB1 := Aside0.mk hb1
    have k1 := hb1.kept k1
    clear hb1
    go_wp2_with fail
    go_ret
    exact ⟨rfl, HB1.out⟩
  cases asl
  · go_enter Try.func121, Try.ntmps121
    go_wp2_with fail
    refine HP.out.mono ?_
    rintro e w1 ⟨rfl, hb1⟩
    have HB1 := Aside0.mk hb1
    have k1 := hb1.kept k1
    have k6 := hb1.kept k6
    clear hb1
    go_wp2_with fail
    go_ret
    exact ⟨rfl, HB1.out⟩
  obtain ⟨x, hx⟩ : ∃ x, (m.peek a).1 = x := ⟨_, rfl⟩
  rw [hx] at HP ⊢
  clear hx
  cases e2 : (x == 0)
  · go_enter Try.func121, Try.ntmps121
    go_wp2_with fail
    refine HP.out.mono ?_
    rintro e w1 ⟨rfl, hb1⟩
    have HB1 := Aside0.mk hb1
    have k1 := hb1.kept k1
    have k6 := hb1.kept k6
    clear hb1
    go_wp2_with fail
    go_ret
    exact ⟨rfl, HB1.out⟩
  · go_enter Try.func121, Try.ntmps121
    go_wp2_with fail
    refine HP.out.mono ?_
    rintro e w1 ⟨rfl, hb1⟩
    have HB1 := Aside0.mk hb1
    have k1 := hb1.kept k1
    have k6 := hb1.kept k6
    clear hb1
    go_wp2_with fail
    go_ret
    exact ⟨rfl, HB1.out⟩
set_option maxHeartbeats 1000000 in
theorem cAsleep_calls (hm : IsMem w mb bm vm m) (h : IsChain w base b s tv A cap vg) :
    Calls Try.prog 70 #[.pointer (some ⟨b, 0, none⟩), .pointer (some ⟨bm, 0, none⟩)] w fun e w' => e = .returned (.bool (s.kind == 5 && s.asleep && (m.peek s.at_).1 == 0)) ∧ Bw w w' := by
  have HB := Aside0.mk (Bw.refl w)
  have HP := Aside0.mk (fAsleep_calls b s.kind s.at_ s.asleep w hm (h.blk.cell 1 _ rfl) (h.blk.cell 2 _ rfl) (h.blk.cell 6 _ rfl) (h.blk.cell 7 _ rfl))
  clear hm h
  go_enter Try.func70, Try.ntmps70
  go_wp2_with fail
  refine HP.out.mono ?_
  rintro e w1 ⟨rfl, hb1⟩
  have HB1 := Aside0.mk hb1
  clear hb1
  go_wp2_with fail
  go_ret
  exact ⟨rfl, HB1.out⟩
/-- What a step of a chain does. -/
def ChS.step (s : ChS) (m : MemS) : ChS × MemS := if s.kind = 0 ∨ (s.kind == 5 && s.asleep && (m.peek s.at_).1 == 0) = true then (s, m) else (s.fin (m.act (kindA s.kind) s.who s.at_ s.old s.w).2, (m.act (kindA s.kind) s.who s.at_ s.old s.w).1)
def StepPost (w : World) (base b mb bm : Nat) (vm : Value) (r : ChS × MemS) (vg : Value) (e : Ending) (w' : World) : Prop :=
  e = .returned (.bool (r.1.kind == 0)) ∧ ∃ tv A cap vg', IsChain w' base b r.1 tv A cap vg' ∧ IsMem w' mb bm vm r.2 ∧ Chg (fun i => ChF b vg i ∨ MemF bm vm i) w w' ∧ NewRow w vg vg'
set_option maxHeartbeats 1000000 in
theorem fStep_calls (h : IsChain w base b s tv A cap vg) (hm : IsMem w mb bm vm m) (hd : ∀ i, ChF b vg i → MemF bm vm i → False) (ho : m.ok) (hw : 0 ≤ s.w) (hr : ∀ y ∈ m.words, 0 ≤ y) (hl : s.got.length ≤ 1000000) (hk : s.kind = 0 ∨ s.kind = 1 ∨ s.kind = 2 ∨ s.kind = 3 ∨ s.kind = 4 ∨ s.kind = 5) :
    Calls Try.prog 122 #[.pointer (some ⟨b, 0, none⟩), .pointer (some ⟨bm, 0, none⟩)] w (StepPost w base b mb bm vm (s.step m) vg) := by
  have HB := Aside0.mk (Bw.refl w)
  have H := Aside0.mk h
  have HM := Aside0.mk hm
  have HD := Aside0.mk (fun (w : World) (h : IsChain w base b s tv A cap vg) => fDone_calls b s.kind w (h.blk.cell 1 _ rfl) (h.blk.cell 7 _ rfl))
  have HA := Aside0.mk (fun (w : World) (h : IsChain w base b s tv A cap vg) (hm : IsMem w mb bm vm m) => fAsleep_calls b s.kind s.at_ s.asleep w hm (h.blk.cell 1 _ rfl) (h.blk.cell 2 _ rfl) (h.blk.cell 6 _ rfl) (h.blk.cell 7 _ rfl))
  cases e1 : (s.kind == 0)
  · have hk1 : s.kind ≠ 0 := by simpa using e1
    have HO := Aside0.mk (fun (w : World) (h : IsChain w base b s tv A cap vg) (hm : IsMem w mb bm vm m) => one_calls h hm hd ho hw hr hl (by rcases hk with h | h; exact absurd h hk1; exact h))
    cases e2 : (s.kind == 5 && s.asleep && (m.peek s.at_).1 == 0)
    · have HS := Aside0.mk (show s.step m = (s.fin (m.act (kindA s.kind) s.who s.at_ s.old s.w).2, (m.act (kindA s.kind) s.who s.at_ s.old s.w).1) by unfold ChS.step; rw [if_neg (by simp [hk1, e2])])
      rw [e1] at HD
      rw [e2] at HA
      clear h hm hd ho hw hr hl hk hk1 e1 e2
      go_enter Try.func122, Try.ntmps122
      go_wp2_with fail
      refine (HD.out _ H.out).mono ?_
      rintro e w1 ⟨rfl, hb1⟩
      have H1 := Aside0.mk (H.out.bw hb1)
      have HM1 := Aside0.mk (HM.out.bw hb1)
      have HB := Aside0.mk (HB.out.trans hb1)
      go_wp2_with fail
      refine (HA.out _ H1.out HM1.out).mono ?_
      rintro e w2 ⟨rfl, hb2⟩
      have H2 := Aside0.mk (H1.out.bw hb2)
      have HM2 := Aside0.mk (HM1.out.bw hb2)
      have k7 : w2.cell? ⟨b, 7, none⟩ = some Value.nilIface := H2.out.blk.cell 7 _ rfl
      have HB := Aside0.mk (HB.out.trans hb2)
      go_wp2_with fail
      refine (HO.out w2 H2.out HM2.out).mono ?_
      rintro e w3 ⟨rfl, tv', A', cap', vg', h3, hm3, hc3, hn3⟩
      have H3 := Aside0.mk h3
      have HM3 := Aside0.mk hm3
      have HC3 := Aside0.mk ((Chg.of_bw HB.out (S := fun i => ChF b vg i ∨ MemF bm vm i)).trans hc3)
      have HN3 := Aside0.mk (show NewRow w vg vg' from hn3.imp id fun ⟨k, a, b⟩ => ⟨k, a, Nat.le_trans HB.out.size b⟩)
      have HDD := Aside0.mk (fDone_calls b _ w3 (h3.blk.cell 1 _ rfl) (h3.blk.cell 7 _ rfl))
      clear h3 hm3 hc3 hn3
      go_wp2_with fail
      refine (HDD.out).mono ?_
      rintro e w4 ⟨rfl, hb4⟩
      have H4 := Aside0.mk (H3.out.bw hb4)
      have HM4 := Aside0.mk (HM3.out.bw hb4)
      have HC4 := Aside0.mk (HC3.out.trans (Chg.of_bw hb4))
      clear hb4
      go_wp2_with fail
      go_ret
      rw [HS.out]
      exact ⟨rfl, _, _, _, _, H4.out, HM4.out, HC4.out, HN3.out⟩
    · have HS := Aside0.mk (show s.step m = (s, m) by unfold ChS.step; rw [if_pos (.inr e2)])
      rw [e1] at HD
      rw [e2] at HA
      clear h hm hd ho hw hr hl hk hk1
      go_enter Try.func122, Try.ntmps122
      go_wp2_with fail
      refine (HD.out _ H.out).mono ?_
      rintro e w1 ⟨rfl, hb1⟩
      have H1 := Aside0.mk (H.out.bw hb1)
      have HM1 := Aside0.mk (HM.out.bw hb1)
      have HB := Aside0.mk (HB.out.trans hb1)
      go_wp2_with fail
      refine (HA.out _ H1.out HM1.out).mono ?_
      rintro e w2 ⟨rfl, hb2⟩
      have H2 := Aside0.mk (H1.out.bw hb2)
      have HM2 := Aside0.mk (HM1.out.bw hb2)
      have k7 : w2.cell? ⟨b, 7, none⟩ = some Value.nilIface := H2.out.blk.cell 7 _ rfl
      have HB := Aside0.mk (HB.out.trans hb2)
      go_wp2_with fail
      refine (HD.out _ H2.out).mono ?_
      rintro e w3 ⟨rfl, hb3⟩
      have H3 := Aside0.mk (H2.out.bw hb3)
      have HM3 := Aside0.mk (HM2.out.bw hb3)
      have HB := Aside0.mk (HB.out.trans hb3)
      go_wp2_with fail
      go_ret
      rw [HS.out]
      exact ⟨by simp only [e1]; rfl, _, _, _, _, H3.out, HM3.out, Chg.of_bw HB.out, .inl rfl⟩
  · have hk1 : s.kind = 0 := by simpa using e1
    have HS := Aside0.mk (show s.step m = (s, m) by unfold ChS.step; rw [if_pos (.inl hk1)])
    rw [e1] at HD
    clear h hm hd ho hw hr hl hk hk1
    go_enter Try.func122, Try.ntmps122
    go_wp2_with fail
    refine (HD.out _ H.out).mono ?_
    rintro e w1 ⟨rfl, hb1⟩
    have H1 := Aside0.mk (H.out.bw hb1)
    have HM1 := Aside0.mk (HM.out.bw hb1)
    have HB := Aside0.mk (HB.out.trans hb1)
    go_wp2_with fail
    refine (HD.out _ H1.out).mono ?_
    rintro e w2 ⟨rfl, hb2⟩
    have H2 := Aside0.mk (H1.out.bw hb2)
    have HM2 := Aside0.mk (HM1.out.bw hb2)
    have HB := Aside0.mk (HB.out.trans hb2)
    go_wp2_with fail
    go_ret
    rw [HS.out]
    exact ⟨by simp only [e1]; rfl, _, _, _, _, H2.out, HM2.out, Chg.of_bw HB.out, .inl rfl⟩
set_option maxHeartbeats 1000000 in
/-- A step without a memory. -/
theorem fStep_nil (b : Nat) (k : Int) (w : World) (k1 : w.cell? ⟨b, 1, none⟩ = some (.int .i64 k)) (k7 : w.cell? ⟨b, 7, none⟩ = some Value.nilIface) :
    Calls Try.prog 122 #[.pointer (some ⟨b, 0, none⟩), .pointer none] w fun e w' => e = .returned (.bool (k == 0)) ∧ Bw w w' := by
  have HB := Aside0.mk (Bw.refl w)
  have HD := Aside0.mk (fDone_calls b k w k1 k7)
  cases e1 : (k == 0)
  all_goals
    rw [e1] at HD
    go_enter Try.func122, Try.ntmps122
    go_wp2_with fail
    refine (HD.out).mono ?_
    rintro e w1 ⟨rfl, hb1⟩
    have k1 := hb1.kept k1
    have k7 := hb1.kept k7
    have HD1 := Aside0.mk (fDone_calls b k w1 k1 k7)
    rw [e1] at HD1
    have HB := Aside0.mk (HB.out.trans hb1)
    clear k1 k7
    go_wp2_with fail
    refine (HD1.out).mono ?_
    rintro e w2 ⟨rfl, hb2⟩
    have HB := Aside0.mk (HB.out.trans hb2)
    go_wp2_with fail
    go_ret
    exact ⟨rfl, HB.out⟩
set_option maxHeartbeats 1000000 in
theorem cStep_none (b : Nat) (k : Int) (w : World) (k1 : w.cell? ⟨b, 1, none⟩ = some (.int .i64 k)) (k7 : w.cell? ⟨b, 7, none⟩ = some Value.nilIface) :
    Calls Try.prog 72 #[.pointer (some ⟨b, 0, none⟩), .pointer none] w fun e w' => e = .returned (.bool (k == 0)) ∧ Bw w w' := by
  have HB := Aside0.mk (Bw.refl w)
  have HD := Aside0.mk (fStep_nil b k w k1 k7)
  clear k1 k7
  go_enter Try.func72, Try.ntmps72
  go_wp2_with fail
  refine (HD.out).mono ?_
  rintro e w1 ⟨rfl, hb1⟩
  have HB := Aside0.mk (HB.out.trans hb1)
  go_wp2_with fail
  go_ret
  exact ⟨rfl, HB.out⟩
set_option maxHeartbeats 1000000 in
theorem cStep_calls (h : IsChain w base b s tv A cap vg) (hm : IsMem w mb bm vm m) (hd : ∀ i, ChF b vg i → MemF bm vm i → False) (ho : m.ok) (hw : 0 ≤ s.w) (hr : ∀ y ∈ m.words, 0 ≤ y) (hl : s.got.length ≤ 1000000) (hk : s.kind = 0 ∨ s.kind = 1 ∨ s.kind = 2 ∨ s.kind = 3 ∨ s.kind = 4 ∨ s.kind = 5) :
    Calls Try.prog 72 #[.pointer (some ⟨b, 0, none⟩), .pointer (some ⟨bm, 0, none⟩)] w (StepPost w base b mb bm vm (s.step m) vg) := by
  have HF := Aside0.mk (fStep_calls h hm hd ho hw hr hl hk)
  clear h hm hd ho hw hr hl hk
  go_enter Try.func72, Try.ntmps72
  go_wp2_with fail
  refine (HF.out).mono ?_
  rintro e w1 ⟨rfl, hp⟩
  have HP := Aside0.mk hp
  clear hp
  go_wp2_with fail
  go_ret
  exact ⟨rfl, HP.out⟩
set_option maxHeartbeats 1000000 in
theorem cGot_calls (h : IsChain w base b s tv A cap vg) (hl : s.got.length ≤ 262144) :
    Calls Try.prog 73 #[.pointer (some ⟨b, 0, none⟩)] w fun e w' => ∃ v, e = .returned v ∧ w'.ownsRow w.heap.size 55 1 v s.got.length (nums .u64 s.got) ∧ Bw w w' := by
  obtain ⟨A', c, rfl, hR⟩ := Rows.own (enc := fun x : Int => [Value.int .u64 x]) (xs := s.got) (fun _ => rfl) (by rw [nums_flat]; exact h.got) rfl (by omega)
  have hz : A' = none → s.got = [] ∧ c = 0 := by
    rintro rfl
    rcases h.got.2 with ⟨e1, e2⟩ | ⟨g, cap, cur, e1, _⟩
    · injection e1 with _ _ e3
      exact ⟨List.length_eq_zero_iff.1 e2, e3⟩
    · injection e1 with e1
      cases e1
  have k1 : w.cell? ⟨b, 11, none⟩ = some (.slice A' s.got.length c) := h.blk.cell 11 _ rfl
  have HR := Aside0.mk hR
  clear h hR
  go_enter Try.func73, Try.ntmps73
  go_wp2_with fail
  refine (Clone64_calls A' c s.got w HR.out hl hz).mono ?_
  rintro e w1 ⟨u, rfl, hown, hb1⟩
  have HO := Aside0.mk hown
  clear hown
  go_wp2_with fail
  go_ret
  exact ⟨u, rfl, HO.out, hb1⟩
end
end Go.Proofs.Ytclippikdfcgkaa.M
