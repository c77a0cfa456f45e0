/- Package flow: a step that is an access. Conditions: counters below 2^62, no more than a million answers. -/
import Derived.Test.YtclippikdfcgkaaMf4
namespace Go.Proofs.Ytclippikdfcgkaa.M
open Go.RowKit Go.Proofs.YtclippikdfcgkaaW.PrintWords Go.Proofs.YtclippikdfcgkaaW.PrintLast Go.Proofs.YtclippikdfcgkaaW.PrintMore
set_option linter.unusedVariables false
set_option linter.unusedSimpArgs false
section
variable {w w1 : World} {base b : Nat} {s : ChS} {tv : Value} {A : Option Addr} {cap : Nat} {vg : Value} {mb bm : Nat} {vm : Value} {m : MemS}
theorem IsMem.only (h : IsMem w mb bm vm m) : OnlyT (MemF bm vm) w := fun i cs t fr hi he => by
  rcases hi with rfl | hi
  · have := h.2.1.symm.trans he
    injection this with this
    injection this with _ this
    exact .inr (.inr (.inl this.symm))
  · rcases h.2.2.1.2 with ⟨e, _⟩ | ⟨g, cap', cur, e, _, hh, _⟩
    · rw [e] at hi; simp [Value.ownBlock] at hi
    · rw [e] at hi
      have hgi : g = i := by simpa [Value.ownBlock] using hi
      subst hgi
      have := hh.symm.trans he
      injection this with this
      injection this with _ this
      exact .inr (.inl this.symm)
theorem IsChain.chg {S : Nat → Prop} (h : IsChain w base b s tv A cap vg) (hc : Chg S w w1) (hS : OnlyT S w) (hd : ∀ i, ChF b vg i → ¬ S i) : IsChain w1 base b s tv A cap vg :=
  ⟨h.le, h.blk.of_block (hc.block b h.blk.lt (hd b (.inl rfl))), h.rest.keepT hc hS, own_of_block h.got (fun k hk => hc.block k (own_lt h.got k hk) (hd k (.inr hk))), h.then_.keepT hc hS, h.fun_⟩
theorem IsChain.lt (h : IsChain w base b s tv A cap vg) : ∀ i, ChF b vg i → i < w.heap.size := by
  rintro i (rfl | hi)
  · exact h.blk.lt
  · exact own_lt h.got i hi
theorem IsChain.ge (h : IsChain w base b s tv A cap vg) : ∀ i, ChF b vg i → base ≤ i := by
  rintro i (rfl | hi)
  · exact h.le
  · exact own_base h.got i hi
/-- A chain behind an access that answered a. -/
def ChS.fin (s : ChS) (a : Int) : ChS := if s.kind = 5 ∧ a = 0 then { s with asleep := true } else goS { s with kind := 0, asleep := false, got := s.got ++ [a] } s.rest
def OnePost (w : World) (base b mb bm : Nat) (vm : Value) (s' : ChS) (m' : MemS) (vg : Value) (e : Ending) (w' : World) : Prop :=
  e = .returned (.tuple #[]) ∧ ∃ tv A cap vg', IsChain w' base b s' tv A cap vg' ∧ IsMem w' mb bm vm m' ∧ Chg (fun i => ChF b vg i ∨ MemF bm vm i) w w' ∧ NewRow w vg vg'
theorem KeepPost.one {S : ChS} {e : Ending} {w0 W3 w' : World} (h : KeepPost W3 base b S vg e w') (hm : IsMem W3 mb bm vm m) (hd : ∀ i, ChF b vg i → MemF bm vm i → False) (hc : Chg (fun i => ChF b vg i ∨ MemF bm vm i) w0 W3) : OnePost w0 base b mb bm vm S m vg e w' := by
  obtain ⟨he, tv, A, cap, vg', hch, hcg, hnew⟩ := h
  refine ⟨he, tv, A, cap, vg', hch, hm.chg hcg (fun i hi e => hd i e hi), hc.trans (hcg.mono fun i hi => .inl hi), ?_⟩
  rcases hnew with e | ⟨k, e, hk⟩
  · exact .inl e
  · exact .inr ⟨k, e, Nat.le_trans hc.size hk⟩
theorem act_two (m : MemS) (who at_ old x : Int) : (m.act 2 who at_ old x).2 = 0 := rfl
theorem act_three (m : MemS) (who at_ old x : Int) : (m.act 3 who at_ old x).2 = 0 ∨ (m.act 3 who at_ old x).2 = 1 := by
  show (if (m.swap who at_ old x).last.done = true then (1 : Int) else 0) = 0 ∨ (if (m.swap who at_ old x).last.done = true then (1 : Int) else 0) = 1
  split
  · exact .inr rfl
  · exact .inl rfl
set_option maxHeartbeats 4000000 in
set_option maxRecDepth 100000 in
theorem one_calls (h : IsChain w base b s tv A cap vg) (hm : IsMem w mb bm vm m) (hd : ∀ i, ChF b vg i → MemF bm vm i → False) (ho : m.ok) (hw : 0 ≤ s.w) (hr : ∀ y ∈ m.words, 0 ≤ y) (hl : s.got.length ≤ 1000000) (hk : s.kind = 1 ∨ s.kind = 2 ∨ s.kind = 3 ∨ s.kind = 4 ∨ s.kind = 5) :
    Calls Try.prog 144 #[.pointer (some ⟨b, 0, none⟩), .pointer (some ⟨bm, 0, none⟩)] w (OnePost w base b mb bm vm (s.fin (m.act (kindA s.kind) s.who s.at_ s.old s.w).2) (m.act (kindA s.kind) s.who s.at_ s.old s.w).1 vg) := by
  have HDO := Aside0.mk (does_fl h hm ho hw hr)
  have H := Aside0.mk h
  have HM := Aside0.mk hm
  have HD := Aside0.mk hd
  obtain ⟨a, ha⟩ : ∃ a, a = (m.act (kindA s.kind) s.who s.at_ s.old s.w).2 := ⟨_, rfl⟩
  obtain ⟨m', hm'⟩ : ∃ m', m' = (m.act (kindA s.kind) s.who s.at_ s.old s.w).1 := ⟨_, rfl⟩
  rw [← ha, ← hm'] at HDO ⊢
  have HA2 := Aside0.mk (show s.kind = 2 → a = 0 from fun hk => by rw [ha, hk]; rfl)
  have HA3 := Aside0.mk (show s.kind = 3 → a = 0 ∨ a = 1 from fun hk => by rw [ha, hk]; exact act_three m _ _ _ _)
  clear h hm hd ha hm' hr ho hw
  go_enter Try.func144, Try.ntmps144
  go_wp2_with fail
  refine (HDO.out).mono ?_
  rintro e w1 ⟨rfl, hM1, hC1⟩
  have HM1 := Aside0.mk hM1
  have HC1 := Aside0.mk hC1
  have H1 := Aside0.mk (H.out.chg hC1 HM.out.only (fun i hi hj => HD.out i hi hj))
  clear hM1 hC1
  have k1 : w1.cell? ⟨b, 1, none⟩ = some (.int .i64 s.kind) := H1.out.blk.cell 1 _ rfl
  have k6 : w1.cell? ⟨b, 6, none⟩ = some (.bool s.asleep) := H1.out.blk.cell 6 _ rfl
  have f1 := H1.out.blk.free 1
  have f5 := H1.out.blk.free 5
  have f6 := H1.out.blk.free 6
  have hbl := H1.out.blk.lt
  by_cases hs : s.kind = 5 ∧ a = 0
  · have HF := Aside0.mk (show s.fin a = { s with asleep := true } by unfold ChS.fin; rw [if_pos hs])
    obtain ⟨hs1, rfl⟩ := hs
    have e1 : (s.kind == 5) = true := by simpa using hs1
    clear hs1 hk
    go_wp2_with fail
    refine bodyPost_ret (v := .tuple #[]) (by simp [results, Try.results144, go_sem]) rfl ⟨rfl, ?_⟩
    rw [HF.out]
    have HC := H1.out.core.asl true
    have C6 := (Chg.refl (fun i => i = b) w1).setb (k := b) (i := 6) rfl (.bool true)
    refine ⟨_, _, _, _, HC.chain (H1.out.then_.keepT C6 (OnlyT.blk H1.out.blk)) H1.out.fun_, HM1.out.chg C6 (fun i hi e => HD.out i (.inl e) hi), ?_, .inl rfl⟩
    exact (HC1.out.mono fun i hi => .inr hi).trans (C6.mono fun i hi => .inl (.inl hi))
  · have HF := Aside0.mk (show s.fin a = goS { s with kind := 0, asleep := false, got := s.got ++ [a] } s.rest by unfold ChS.fin; rw [if_neg hs])
    have hcore := ((H1.out.core.kind 0).setT Value.nilFunc).asl false
    have C3 : Chg (fun i => i = b) w1 (((w1.setCell ⟨b, 1, none⟩ (.int .i64 0)).setCell ⟨b, 5, none⟩ Value.nilFunc).setCell ⟨b, 6, none⟩ (.bool false)) := (((Chg.refl (fun i => i = b) w1).setb (k := b) (i := 1) rfl (.int .i64 0)).setb (k := b) (i := 5) rfl Value.nilFunc).setb (k := b) (i := 6) rfl (.bool false)
    obtain ⟨W3, hW3⟩ : ∃ W3, W3 = ((w1.setCell ⟨b, 1, none⟩ (.int .i64 0)).setCell ⟨b, 5, none⟩ Value.nilFunc).setCell ⟨b, 6, none⟩ (.bool false) := ⟨_, rfl⟩
    rw [← hW3] at hcore C3
    have HCH := Aside0.mk (show IsChain W3 base b { s with kind := 0, asleep := false } Value.nilFunc A cap vg from hcore.chain (by show ThenOk W3 b 0 _; unfold ThenOk; rw [if_pos rfl]; trivial) ⟨.func 0, #[], #[], .inr rfl⟩)
    have HM3 := Aside0.mk (HM1.out.chg C3 (fun i hi e => HD.out i (.inl e) hi))
    have HC3 := Aside0.mk ((HC1.out.mono (T := fun i => ChF b vg i ∨ MemF bm vm i) fun i hi => .inr hi).trans (C3.mono fun i hi => .inl (.inl hi)))
    have HT := Aside0.mk (H1.out.then_.keepT C3 (OnlyT.blk H1.out.blk))
    have HW3 := Aside0.mk hW3
    clear hcore C3 hW3
    by_cases hk2 : s.kind = 2
    · have e1 : (s.kind == 5) = false := by rw [hk2]; rfl
      obtain ⟨p, q, rfl, hp, hq⟩ : ∃ p q, tv = .func (.func 150) #[] #[.pointer (some ⟨p, 0, none⟩)] ∧ Blk W3 p #[.func (.func 139) #[] #[.pointer (some ⟨q, 0, none⟩)]] 1 ∧ Blk W3 q #[.pointer (some ⟨b, 0, none⟩)] 115 := by
        have := HT.out
        unfold ThenOk at this
        rwa [hk2, if_neg (by decide), if_pos rfl] at this
      have HP := Aside0.mk hp
      have HQ := Aside0.mk hq
      have k5 : w1.cell? ⟨b, 5, none⟩ = some (.func (.func 150) #[] #[.pointer (some ⟨p, 0, none⟩)]) := H1.out.blk.cell 5 _ rfl
      obtain rfl := HA2.out hk2
      clear hp hq hk hk2 hs
      go_wp2_with fail
      rw [← HW3.out]
      refine (store1_calls 0 p q HCH.out rfl hl HP.out HQ.out).mono ?_
      rintro e w4 hp4
      obtain rfl := hp4.1
      have HP := Aside0.mk (hp4.one HM3.out HD.out HC3.out)
      clear hp4
      go_wp2_with fail
      go_end0
      rw [HF.out]
      exact HP.out
    by_cases hk3 : s.kind = 3
    · have e1 : (s.kind == 5) = false := by rw [hk3]; rfl
      obtain ⟨p, rfl, hp⟩ : ∃ p, tv = .func (.func 151) #[] #[.pointer (some ⟨p, 0, none⟩)] ∧ Blk W3 p #[.func (.func 141) #[.pointer (some ⟨b, 0, none⟩)] #[]] 215 := by
        have := HT.out
        unfold ThenOk at this
        rwa [hk3, if_neg (by decide), if_neg (by decide), if_pos rfl] at this
      have HP := Aside0.mk hp
      have k5 : w1.cell? ⟨b, 5, none⟩ = some (.func (.func 151) #[] #[.pointer (some ⟨p, 0, none⟩)]) := H1.out.blk.cell 5 _ rfl
      have HA := Aside0.mk (show (if (a == 1) = true then (1 : Int) else 0) = a by rcases HA3.out hk3 with rfl | rfl <;> rfl)
      clear hp hk hk2 hk3 hs
      go_wp2_with fail
      rw [← HW3.out]
      refine (swap1_calls a (a == 1) p rfl HCH.out rfl hl HP.out).mono ?_
      rintro e w4 hp4
      obtain rfl := hp4.1
      have HP := Aside0.mk ((HA.out ▸ hp4).one HM3.out HD.out HC3.out)
      clear hp4
      go_wp2_with fail
      go_end0
      rw [HF.out]
      exact HP.out
    have e5 : s.kind = 1 ∨ s.kind = 4 ∨ s.kind = 5 := by
      rcases hk with h | h | h | h | h
      · exact .inl h
      · exact absurd h hk2
      · exact absurd h hk3
      · exact .inr (.inl h)
      · exact .inr (.inr h)
    obtain rfl : tv = .func (.func 136) #[.pointer (some ⟨b, 0, none⟩)] #[] := by
      have := HT.out
      unfold ThenOk at this
      rwa [if_neg (by rcases e5 with h | h | h <;> rw [h] <;> decide), if_neg hk2, if_neg hk3] at this
    have k5 : w1.cell? ⟨b, 5, none⟩ = some (.func (.func 136) #[.pointer (some ⟨b, 0, none⟩)] #[]) := H1.out.blk.cell 5 _ rfl
    cases e1 : (s.kind == 5)
    · clear hk hk2 hk3 hs e5
      go_wp2_with fail
      rw [← HW3.out]
      refine (keep_calls a HCH.out rfl hl).mono ?_
      rintro e w4 hp4
      obtain rfl := hp4.1
      have HP := Aside0.mk (hp4.one HM3.out HD.out HC3.out)
      clear hp4
      go_wp2_with fail
      go_end0
      rw [HF.out]
      exact HP.out
    · have e2 : (a == 0) = false := by
        have : s.kind = 5 := by simpa using e1
        simpa using fun h => hs ⟨this, h⟩
      clear hk hk2 hk3 hs e5
      go_wp2_with fail
      rw [← HW3.out]
      refine (keep_calls a HCH.out rfl hl).mono ?_
      rintro e w4 hp4
      obtain rfl := hp4.1
      have HP := Aside0.mk (hp4.one HM3.out HD.out HC3.out)
      clear hp4
      go_wp2_with fail
      go_end0
      rw [HF.out]
      exact HP.out
end
end Go.Proofs.Ytclippikdfcgkaa.M
