/- Package flow: what was answered is kept, and a chain goes on; the functions that follow an access. Conditions: no more than a million answers. -/
import Derived.Test.YtclippikdfcgkaaMf2
import Derived.Deep.RegionLaw
import Derived.Deep.AppendLies
import Derived.WalkSpells
namespace Go.Proofs.Ytclippikdfcgkaa.M
open Go.RowKit Go.Proofs.YtclippikdfcgkaaW.PrintWords Go.Proofs.YtclippikdfcgkaaW.PrintLast Go.Proofs.YtclippikdfcgkaaW.PrintMore
set_option linter.unusedVariables false
set_option linter.unusedSimpArgs false
theorem Chg.of_grown {w w1 : World} {v : Value} (h : w.grownBy w1 v.ownBlock) : Chg (fun i => v.ownBlock = some i) w w1 := ⟨h.os, h.tape, h.output, h.size, fun i hi hs => h.block i hi (fun e => hs e.symm)⟩
/-- The blocks that a chain's steps change. -/
def ChF (b : Nat) (vg : Value) : Nat → Prop := fun i => i = b ∨ vg.ownBlock = some i
def NewRow (w : World) (vg vg' : Value) : Prop := vg'.ownBlock = vg.ownBlock ∨ ∃ k, vg'.ownBlock = some k ∧ w.heap.size ≤ k
section
variable {w w1 : World} {base b : Nat} {s : ChS} {tv : Value} {A : Option Addr} {cap : Nat} {vg : Value}
theorem IsCore.only (h : IsCore w base b s tv A cap vg) : OnlyT (ChF b vg) w := fun i cs t fr hi he => by
  rcases hi with rfl | hi
  · exact OnlyT.blk h.blk _ cs t fr rfl he
  · rcases h.got.2 with ⟨e, _⟩ | ⟨g, cap', cur, e, _, hh, _⟩
    · rw [e] at hi; simp [Value.ownBlock] at hi
    · rw [e] at hi
      have hgi : g = i := by simpa [Value.ownBlock] using hi
      subst hgi
      have := hh.symm.trans he
      injection this with this
      injection this with _ this
      exact .inr (.inl this.symm)
def KeepPost (w : World) (base b : Nat) (s' : ChS) (vg : Value) (e : Ending) (w' : World) : Prop := e = .returned (.tuple #[]) ∧ ∃ tv A cap vg', IsChain w' base b s' tv A cap vg' ∧ Chg (ChF b vg) w w' ∧ NewRow w vg vg'
set_option maxHeartbeats 2000000 in
set_option maxRecDepth 100000 in
theorem keep_calls (x : Int) (h : IsChain w base b s tv A cap vg) (hk : s.kind = 0) (hl : s.got.length ≤ 1000000) :
    Calls Try.prog 136 #[.pointer (some ⟨b, 0, none⟩), .int .u64 x] w (KeepPost w base b (goS { s with got := s.got ++ [x] } s.rest) vg) := by
  have H := Aside0.mk h
  obtain ⟨i0, hi, hzz⟩ := Option.map_eq_some_iff.1 infoU
  simp only [Prod.mk.injEq] at hzz
  obtain ⟨hz, hs1, hb1⟩ := hzz
  have HI := Aside0.mk hi
  have HZ := Aside0.mk hz
  have HS1 := Aside0.mk hs1
  have HB1 := Aside0.mk hb1
  have HK := Aside0.mk hk
  obtain ⟨n, hn⟩ : ∃ n, n = s.got.length := ⟨_, rfl⟩
  have hown := h.got
  rw [← hn] at hown hl
  have HN := Aside0.mk hn
  obtain ⟨GA, gc, hvg⟩ := own_slice hown
  have k11 : w.cell? ⟨b, 11, none⟩ = some (.slice GA n gc) := by rw [← hvg]; exact h.blk.cell 11 _ rfl
  have f11 := h.blk.free 11
  have hlt := h.blk.lt
  rw [hvg] at hown
  have HVG := Aside0.mk hvg
  have HO1 := Aside0.mk (show (w.alloc (.cells #[.int .u64 x] 55)).ownsRow base 55 1 (.slice GA n gc) n (nums .u64 s.got) from hown.alloc _)
  have HN1 := Aside0.mk (show ∀ (j : Nat) (u : Value), [Value.int .u64 x][j]? = some u → (w.alloc (.cells #[.int .u64 x] 55)).cell? ((⟨w.heap.size, 0, none⟩ : Addr).add j) = some u from World.news_of_block (w := (w.alloc (.cells #[.int .u64 x] 55))) (cs := #[.int .u64 x]) (Blk.new w #[.int .u64 x] 55))
  have HBK := Aside0.mk (h.core.bw ((Bw.refl w).alloc (.cells #[.int .u64 x] 55)))
  have HNE := Aside0.mk (show some b ≠ (Value.slice GA n gc).ownBlock from own_ne (t := 185) HO1.out HBK.out.blk (by decide))
  have HSZ := Aside0.mk (show (w.alloc (.cells #[.int .u64 x] 55)).heap.size = w.heap.size + 1 by simp)
  have HBS := Aside0.mk (show base ≤ w.heap.size from Nat.le_trans h.le (Nat.le_of_lt hlt))
  have h63 : n + 1 ≤ maxLen := by unfold maxLen; omega
  clear h hi hz hs1 hb1 hk hn hown hvg
  go_enter Try.func136, Try.ntmps136
  go_wp2_with (at_builtin; refine wpList_append_lies _ rfl (.tmp 8) (.tmp 10) 41 (by rfl) base 55 i0 (.int .u64 0) 1 8 Try.underlying41 HI.out HZ.out HS1.out HB1.out rfl (by omega) (.slice GA n gc) n (nums .u64 s.got) (by rfl) HO1.out ⟨w.heap.size, 0, none⟩ 1 1 [.int .u64 x] (by rfl) rfl HN1.out (by simp [Value.oneCell']) (by omega) h63 (by omega) (by have := HSZ.out; have := HBS.out; omega) (w.heap.size + 1) HSZ.out ?_; intro g cap2 w2 hown2 hg2 hat2 hlt2; have HB2 := Aside0.mk (HBK.out.blk.of_block (hg2.block _ HBK.out.blk.lt HNE.out)); have c2 := HB2.out.cell 11 _ rfl; have f2 := HB2.out.free 11; have HO2 := Aside0.mk hown2; have HG2 := Aside0.mk hg2; have HA2 := Aside0.mk hat2; have l2 := HB2.out.lt; clear hown2 hg2 hat2)
  have hcore : IsCore (w2.setCell ⟨b, 11, none⟩ (.slice (some ⟨g, 0, none⟩) (n + 1) cap2)) base b { s with got := s.got ++ [x] } tv A cap (.slice (some ⟨g, 0, none⟩) (n + 1) cap2) := by
    have CG : Chg (fun i => (Value.slice GA n gc).ownBlock = some i) (w.alloc (.cells #[.int .u64 x] 55)) w2 := Chg.of_grown HG2.out
    have ON : OnlyT (fun i => (Value.slice GA n gc).ownBlock = some i) (w.alloc (.cells #[.int .u64 x] 55)) := fun i cs t fr hi he => HBK.out.only i cs t fr (.inr (by rw [HVG.out]; exact hi)) he
    have hne : some b ≠ (Value.slice (some ⟨g, 0, none⟩) (n + 1) cap2).ownBlock := own_ne (t := 185) HO2.out HB2.out (by decide)
    have C11 := (Chg.refl (fun j => j = b) w2).setb (k := b) (i := 11) rfl (.slice (some ⟨g, 0, none⟩) (n + 1) cap2)
    refine ⟨H.out.le, ?_, ((H.out.rest.keepT (Chg.of_bw ((Bw.refl w).alloc _)) (OnlyT.none w)).keepT CG ON).keepT C11 (OnlyT.blk HB2.out), ?_⟩
    · have := HB2.out.set 11 (.slice (some ⟨g, 0, none⟩) (n + 1) cap2)
      simpa [chCells] using this
    · have e1 : (s.got ++ [x]).length = n + 1 := by rw [List.length_append, ← HN.out]; rfl
      show World.ownsRow _ _ _ _ _ (s.got ++ [x]).length (nums .u64 (s.got ++ [x]))
      rw [e1]
      refine own_setCell (p := ⟨b, 11, none⟩) ?_ hne _
      have := HO2.out
      simpa [nums] using this
  have hcc : Chg (ChF b vg) w (w2.setCell ⟨b, 11, none⟩ (.slice (some ⟨g, 0, none⟩) (n + 1) cap2)) :=
    (((Chg.refl (ChF b vg) w).alloc (.cells #[.int .u64 x] 55)).trans ((Chg.of_grown HG2.out).mono fun i hi => .inr (by rw [HVG.out]; exact hi))).setb (k := b) (i := 11) (.inl rfl) _
  have HCO := Aside0.mk hcore
  have HCC := Aside0.mk hcc
  have HNR := Aside0.mk (show NewRow w vg (.slice (some ⟨g, 0, none⟩) (n + 1) cap2) from by
    rcases HA2.out with h | h
    · exact .inl (by rw [HVG.out]; exact h.symm)
    · exact .inr ⟨g, rfl, by omega⟩)
  obtain ⟨W3, hW3⟩ : ∃ W3, W3 = w2.setCell ⟨b, 11, none⟩ (.slice (some ⟨g, 0, none⟩) (n + 1) cap2) := ⟨_, rfl⟩
  rw [← hW3] at HCO HCC
  clear hcore hcc
  have hth : ThenOk W3 b ({ s with got := s.got ++ [x] } : ChS).kind tv := by show ThenOk W3 b s.kind tv; rw [HK.out]; unfold ThenOk; rw [if_pos rfl]; trivial
  have HCH := Aside0.mk (goOn_calls (base := base) (b := b) (vg := .slice (some ⟨g, 0, none⟩) (n + 1) cap2) s.rest { s with got := s.got ++ [x] } tv A cap W3 rfl HK.out (HCO.out.chain hth H.out.fun_))
  clear hth c2 f2
  have HW3 := Aside0.mk hW3
  clear hW3
  go_wp2_with fail
  rw [← HW3.out]
  refine (HCH.out).mono ?_
  rintro e w4 ⟨rfl, tv4, A4, cap4, hI4, hC4⟩
  have HI4 := Aside0.mk hI4
  have HC4 := Aside0.mk (HCC.out.trans (hC4.mono fun i hi => .inl hi))
  clear hI4 hC4
  go_wp2_with fail
  go_end0
  exact ⟨rfl, _, _, _, _, HI4.out, HC4.out, HNR.out⟩
end
end Go.Proofs.Ytclippikdfcgkaa.M
