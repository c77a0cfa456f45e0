/- The law FlowChains: the walk. Condition: no more than 60 words, 60 accesses, 100 pokes. -/
import Derived.Test.YtclippikdfcgkaaMfe
namespace Go.Proofs.Ytclippikdfcgkaa.M
open Go.RowKit Go.Proofs.YtclippikdfcgkaaW.PrintWords Go.Proofs.YtclippikdfcgkaaW.PrintLast Go.Proofs.YtclippikdfcgkaaW.PrintMore
set_option linter.unusedVariables false
set_option linter.unusedSimpArgs false
structure PkS where
  step : Bool
  act : ActS
abbrev encPk : PkS → List Value := fun p => .bool p.step :: encA p.act
theorem Good.asl {s : ChS} {F : RunS × List Int} (h : Good s F) (m : MemS) : (s.kind == 5 && s.asleep && (m.peek s.at_).1 == 0) = (F.1.stop && F.1.sleep && (m.peek F.1.want.at_).1 == 0) := by
  cases hs : F.1.stop
  · have h0 : s.kind = 0 := by have := h.stop; rw [hs] at this; simpa using this.symm
    rw [h0]
    rfl
  · rw [h.slp hs, h.want hs]
    simp
/-- A load, and a sleep, have no new word. -/
def W0 (s : ChS) : Prop := s.kind = 1 ∨ s.kind = 5 → s.w = 0
theorem goS_w0 : ∀ (l : List Acc) (s : ChS), s.kind = 0 → W0 (goS s l)
  | [], s, h => fun hk => by
    have : s.kind = 1 ∨ s.kind = 5 := hk
    omega
  | a :: l, s, h => by
    unfold goS
    split
    · exact fun _ => rfl
    split
    · exact fun _ => rfl
    split
    · intro hk; simp at hk
    split
    · intro hk; simp at hk
    split
    · intro hk; simp at hk
    exact goS_w0 l s h
theorem fin_w0 (s : ChS) (a : Int) (h : W0 s) : W0 (s.fin' a) := by
  unfold ChS.fin'
  split
  · exact h
  · exact goS_w0 _ _ rfl
theorem mach_w0 : ∀ (xs : List Int) (s : ChS), W0 s → W0 (mach s xs)
  | [], s, h => h
  | x :: xs, s, h => by
    by_cases h0 : s.kind = 0
    · rw [mach_done _ _ h0]; exact h
    · rw [mach_cons _ _ _ h0]; exact mach_w0 xs _ (fin_w0 _ _ h)
theorem new_w0 (who : Int) (l : List Acc) (got : List Int) : W0 (mach (newS who l) got) := mach_w0 _ _ (goS_w0 _ _ rfl)
theorem Good.wk {s : ChS} {F : RunS × List Int} (h : Good s F) (hw : W0 s) (hs : F.1.stop = true) : F.1.want.kind = 1 ∧ F.1.want.new = 0 ∨ F.1.want.kind = 2 ∨ F.1.want.kind = 3 ∨ F.1.want.kind = 4 := by
  have h0 : s.kind ≠ 0 := by
    have := h.stop
    rw [hs] at this
    intro e
    rw [e] at this
    cases this
  rw [h.want hs]
  rcases h.kind with e | e | e | e | e | e
  · exact absurd e h0
  · exact .inl ⟨by rw [e]; rfl, hw (.inl e)⟩
  · exact .inr (.inl (by rw [e]; rfl))
  · exact .inr (.inr (.inl (by rw [e]; rfl)))
  · exact .inr (.inr (.inr (by rw [e]; rfl)))
  · exact .inl ⟨by rw [e]; rfl, hw (.inr e)⟩
theorem Good.inv {s : ChS} {F : RunS × List Int} {n k : Nat} {m : MemS} (h : Good s F) (hw : W0 s) (hi : MInv n k m) : MInv n (k + 1) (s.step m).2 := by
  unfold ChS.step
  split
  · show MInv n (k + 1) m
    exact ⟨hi.1, ⟨hi.2.1.1, by have := hi.2.1.2; omega⟩, ⟨hi.2.2.1.1, by have := hi.2.2.1.2; omega⟩, hi.2.2.2⟩
  · rename_i h0
    have h0 : s.kind ≠ 0 := fun e => h0 (.inl e)
    have hs := hi.step ⟨s.kind, s.who, s.at_, s.old, s.w⟩ h.nn
    unfold MemS.step at hs
    have e : (if kindA s.kind = 1 then 0 else s.w) = s.w := by
      split
      · rename_i h1
        refine (hw ?_).symm
        have := h.kind
        unfold kindA at h1
        split at h1 <;> omega
      · rfl
    simp only at hs
    rw [e] at hs
    exact hs
theorem turn_len {got : List Int} {k : Nat} (m : MemS) (r : RunS) (who : Int) (h : r.got = got) (hl : got.length ≤ k) : (turnS m r who).2.length ≤ k + 1 := by
  unfold turnS
  repeat' split
  all_goals simp [h]; try omega
set_option maxHeartbeats 4000000 in
set_option maxRecDepth 100000 in
theorem FlowChains_core (A : Option Addr) (cap : Nat) (ws : List Int) (A2 : Option Addr) (cap2 : Nat) (l : List Acc) (A3 : Option Addr) (cap3 : Nat) (ps : List PkS) (w : World) (hx : Rows (fun x => [Value.int .u64 x]) 1 w A ws) (hl : ws.length ≤ 60) (hz : A = none → ws = [] ∧ cap = 0) (hr : ∀ x ∈ ws, 0 ≤ x)
    (hx2 : Rows encAc 6 w A2 l) (hl2 : l.length ≤ 60) (hr2 : ∀ a ∈ l, 0 ≤ a.new) (hx3 : Rows encPk 6 w A3 ps) (hl3 : ps.length ≤ 100) (hr3 : ∀ p ∈ ps, 0 ≤ p.act.w) :
    Calls Try.prog 11 #[.slice A ws.length cap, .slice A2 l.length cap2, .slice A3 ps.length cap3] w fun e w' => e = .returned (.bool true) ∧ Bw w w' := by
  have HB := Aside0.mk (Bw.refl w)
  have HX := Aside0.mk hx
  have HX2 := Aside0.mk hx2
  have HX3 := Aside0.mk hx3
  have HR := Aside0.mk hr
  have HR2 := Aside0.mk hr2
  have HR3 := Aside0.mk hr3
  have d1 : decide ((60 : Int) < (ws.length : Int)) = false := by simp; omega
  have d2 : decide ((60 : Int) < (l.length : Int)) = false := by simp; omega
  have d3 : decide ((100 : Int) < (ps.length : Int)) = false := by simp; omega
  clear hx hx2 hx3 hr hr2 hr3
  go_enter Try.func11, Try.ntmps11
  go_wp2_with fail
  refine (Of_calls A cap ws w HX.out (by omega) hz).mono ?_
  rintro e w1 ⟨b, v, rfl, hM, hb1⟩
  have HM := Aside0.mk (hM.lower (base' := w.heap.size) (Nat.le_refl _))
  have HW := Aside0.mk hb1
  clear hM
  go_wp2_with fail
  refine (refNew_calls A cap ws w1 (HX.out.bw HW.out) (by omega)).mono ?_
  rintro e w2 ⟨b', v', rfl, hM2, hb2⟩
  have HBO := Aside0.mk (show Both w2 w.heap.size b b' v v' (memOf ws) from ⟨HM.out.bw hb2, ⟨Nat.le_trans HW.out.size hM2.1, hM2.2.1, own_weaken hM2.2.2.1 HW.out.size, hM2.2.2.2⟩, fun i hi hj => by
    have h1 := HM.out.lt i hi
    have h2 := hM2.ge i hj
    omega⟩)
  have HW2 := Aside0.mk (HW.out.trans hb2)
  clear hM2 hb2 hb1
  go_wp2_with fail
  refine (flowNew_calls 3 A2 cap2 l w2 (HX2.out.bw HW2.out) (by omega)).mono ?_
  rintro e w3 ⟨c, tv, A', cap', rfl, hch, hb3⟩
  have HF := Aside0.mk (show AtFl w w3 b b' c v v' (.slice none 0 0) (.slice none 0 0) (memOf ws) (newS 3 l) [] ws.length 0 l tv A' cap' from
    ⟨HBO.out.bw hb3, hch.down HW2.out.size, fun i hi hj => by
      have h1 := hch.ge i hi
      have h2 := BothF.lt HBO.out i hj
      omega, own_nil _ _ _ _, fun i hi => by simp [Value.ownBlock] at hi, ⟨rfl, ⟨Int.le_refl _, Int.le_refl _⟩, ⟨Int.le_refl _, Int.le_refl _⟩, HR.out⟩, HW2.out.trans hb3, rfl, Nat.le_refl _⟩)
  clear hch hb3
  go_wp2_with fail
  go_loopw [11, 12] (fun gv iv wr => ∃ (k : Nat) (m : MemS) (s : ChS) (got : List Int) (vg tv : Value) (A' : Option Addr) (cap' : Nat), k ≤ ps.length ∧ iv = .int .i64 k ∧ Aside0 (AtFl w wr b b' c v v' vg gv m s got ws.length k l tv A' cap')) (fun _ iv _ => ps.length - (intOf iv).toNat)
  case atStart => exact ⟨0, memOf ws, newS 3 l, [], .slice none 0 0, tv, A', cap', by omega, rfl, HF⟩
  case round =>
    clear tv A' cap' HF HBO HM HW HW2
    obtain ⟨k, m, s, got, vg, tv, A', cap', hk, rfl, HK⟩ := hrel
    by_cases hlt : k < ps.length
    · obtain ⟨p, hp⟩ : ∃ p, ps[k]? = some p := ⟨_, List.getElem?_eq_getElem hlt⟩
      have HR3K := Aside0.mk (HR3.out p (List.mem_of_getElem? hp))
      obtain ⟨ad, rfl, s0, hi⟩ := (HX3.out.bw HK.out.bw).atS k p hp
      have s0 : wr.cell? (ad.add (k * 6)) = some (.bool p.step) := s0 _ rfl
      have s1 : wr.cell? ⟨(ad.add (k * 6)).block, (ad.add (k * 6)).off + 1, none⟩ = some (.int .i64 p.act.kind) := hi 1 _ (by decide) rfl
      have s2 : wr.cell? ⟨(ad.add (k * 6)).block, (ad.add (k * 6)).off + 2, none⟩ = some (.int .i64 p.act.who) := hi 2 _ (by decide) rfl
      have s3 : wr.cell? ⟨(ad.add (k * 6)).block, (ad.add (k * 6)).off + 3, none⟩ = some (.int .i64 p.act.at_) := hi 3 _ (by decide) rfl
      have s4 : wr.cell? ⟨(ad.add (k * 6)).block, (ad.add (k * 6)).off + 4, none⟩ = some (.int .u64 p.act.old) := hi 4 _ (by decide) rfl
      have s5 : wr.cell? ⟨(ad.add (k * 6)).block, (ad.add (k * 6)).off + 5, none⟩ = some (.int .u64 p.act.w) := hi 5 _ (by decide) rfl
      clear hi hp
      obtain ⟨stp, act⟩ := p
      cases stp
      · go_wp2_with fail
        have hok := HK.out.inv.ok (by omega)
        refine (lawDo_calls act HK.out.both hok (And.intro HK.out.inv.2.2.2 HR3K.out)).mono ?_
        rintro e w4 ⟨rfl, hB4, hC4⟩
        have HK4 := Aside0.mk (HK.out.poke hB4 hC4 (HK.out.inv.step act HR3K.out))
        clear hB4 hC4 hok s0 s1 s2 s3 s4 s5
        go_wp2_with fail
        go_roundw
        case rel => exact ⟨k + 1, m.step act, s, got, vg, tv, A', cap', by omega, by go_num, HK4⟩
        case measure => simp [intOf]; omega
      · obtain ⟨Ag, cg, rfl⟩ := own_slice HK.out.own
        have HRU := Aside0.mk (show IsRun (wr.alloc (.cells #[.slice Ag got.length cg, .int .i64 0, .bool false, .int .i64 0, .int .i64 0, .int .i64 0, .int .u64 0, .int .u64 0, .bool false, .bool false] 120)) w.heap.size wr.heap.size (.slice Ag got.length cg) (R0 got) from
          ⟨Blk.new wr _ _, pw_own_below HK.out.own ((Bw.refl wr).alloc _), by show got.length ≤ 262144; have := HK.out.len; omega, Nat.zero_le _⟩)
        have HWA := Aside0.mk (HK.out.bw.alloc (.cells #[.slice Ag got.length cg, .int .i64 0, .bool false, .int .i64 0, .int .i64 0, .int .i64 0, .int .u64 0, .int .u64 0, .bool false, .bool false] 120))
        clear s1 s2 s3 s4 s5
        go_wp2_with fail
        refine (Chain_calls HX2.out (by omega) HWA.out HK.out.bw.size HRU.out).mono ?_
        rintro e w4 ⟨u, rfl, hr4, ho4, hc4⟩
        have hb4 := hc4.below ((Bw.refl wr).alloc _) (fun i e => by rw [e]; exact Nat.le_refl _)
        have HK4 := Aside0.mk (HK.out.bwt hb4)
        obtain ⟨F, hF⟩ : ∃ F, F = RunS.chain l (R0 got) [] := ⟨_, rfl⟩
        rw [← hF] at hr4
        have HFE := Aside0.mk hF
        have HG := Aside0.mk (show Good s F by rw [hF, HK.out.eq]; exact good_of l HR2.out 3 got)
        have HR4 := Aside0.mk hr4
        obtain ⟨pr, hpr⟩ : ∃ pr, pr = wr.heap.size := ⟨_, rfl⟩
        rw [← hpr] at HR4 ⊢
        have c2 : w4.cell? ⟨pr, 2, none⟩ = some (.bool F.1.stop) := HR4.out.blk.cell 2 _ rfl
        have c5 : w4.cell? ⟨pr, 5, none⟩ = some (.int .i64 F.1.want.at_) := HR4.out.blk.cell 5 _ rfl
        have c9 : w4.cell? ⟨pr, 9, none⟩ = some (.bool F.1.sleep) := HR4.out.blk.cell 9 _ rfl
        clear hr4 ho4 hc4 hb4 hF hpr s0
        go_wp2_with fail
        refine (refPeek_calls F.1.want.at_ HK4.out.both.2.1).mono ?_
        rintro e w5 ⟨rfl, hb5⟩
        have HK5 := Aside0.mk (HK4.out.bwt hb5)
        have HR5 := Aside0.mk (HR4.out.bw hb5)
        have c2 := hb5.kept c2
        have c9 := hb5.kept c9
        clear hb5
        have HAS := Aside0.mk (cAsleep_calls HK5.out.both.1 HK5.out.ch)
        obtain ⟨x, hx⟩ : ∃ x, x = (m.peek F.1.want.at_).1 := ⟨_, rfl⟩
        obtain ⟨st, hst⟩ : ∃ st, st = F.1.stop := ⟨_, rfl⟩
        obtain ⟨sl, hsl⟩ : ∃ sl, sl = F.1.sleep := ⟨_, rfl⟩
        have HSK := Aside0.mk (show (s.kind == 0) = !st by rw [hst, HG.out.stop]; simp)
        have HASL := Aside0.mk (HG.out.asl m)
        rw [← hx, ← hst, ← hsl] at HASL
        rw [← hx]
        rw [← hst] at c2
        rw [← hsl] at c9
        have HXE := Aside0.mk hx
        have HSTE := Aside0.mk hst
        have HSLE := Aside0.mk hsl
        clear hx hst hsl
        go_upto_region 16 with fail
        go_cut [16] from 42 to 106 (fun v wx => v = .bool (st && sl && x == 0) ∧ wx = w5)
        case first =>
          cases st
          · go_wp2_with fail
            go_meet
            case rel => exact ⟨rfl, rfl⟩
          · cases sl
            · go_wp2_with fail
              go_meet
              case rel => exact ⟨rfl, rfl⟩
            · cases e0 : (x == 0)
              all_goals
                go_wp2_with fail
                go_meet
                case rel => exact ⟨by rw [e0]; rfl, rfl⟩
        case rest =>
          obtain ⟨rfl, hwc⟩ := hcut
          rw [hwc]
          clear hwc
          obtain ⟨asl, hasl⟩ : ∃ asl, asl = (st && sl && x == 0) := ⟨_, rfl⟩
          rw [← hasl] at HASL ⊢
          have HASE := Aside0.mk hasl
          have HDN := Aside0.mk (show ∀ W, Bw w5 W → Calls Try.prog 69 #[.pointer (some ⟨c, 0, none⟩)] W fun e w' => e = .returned (.bool (!st)) ∧ Bw W w' from fun W hW => by
            have := cDone_calls c s.kind W (hW.kept (HK5.out.ch.blk.cell 1 _ rfl)) (hW.kept (HK5.out.ch.blk.cell 7 _ rfl))
            rwa [HSK.out] at this)
          have HAS2 := Aside0.mk (show ∀ W, Bw w5 W → Calls Try.prog 70 #[.pointer (some ⟨c, 0, none⟩), .pointer (some ⟨b, 0, none⟩)] W fun e w' => e = .returned (.bool asl) ∧ Bw W w' from fun W hW => by
            have := cAsleep_calls (HK5.out.both.1.bw hW) (HK5.out.ch.bw hW)
            rwa [HASL.out] at this)
          have c2q : ∀ p : BwW w5, p.W.cell? ⟨pr, 2, none⟩ = some (.bool st) := fun p => p.h.kept c2
          have eB : ((!st) == st) = false := by cases st <;> rfl
          have eA : (asl != asl) = false := by cases asl <;> rfl
          have eA2 : (asl == asl) = true := by cases asl <;> rfl
          clear hasl c2 c9
          go_wp2_with fail
          refine wp_region_bw (by kernel_rfl) (by kernel_rfl) ?_
          repeat (first | go_big_quiet_skip | (go_big_quiet_want; go_big_quiet_op; first | go_big_quiet_on | go_big_quiet_call (first | (go_at_call 69; exact qcall (HDN.out _ (BwW.h _))) | (go_at_call 70; exact qcall (HAS2.out _ (BwW.h _))))))
          refine wpQuiet_nil ?_
          rintro w6 ⟨⟨_, hb6⟩, rfl⟩
          have HK6 := Aside0.mk (HK5.out.bwt hb6)
          have HR6 := Aside0.mk (HR5.out.bw hb6)
          clear hb6 c2q
          have c0 : w6.cell? ⟨pr, 0, none⟩ = some (.slice Ag got.length cg) := HR6.out.blk.cell 0 _ rfl
          have c1 : w6.cell? ⟨pr, 1, none⟩ = some (.int .i64 F.1.used) := HR6.out.blk.cell 1 _ rfl
          have c2 : w6.cell? ⟨pr, 2, none⟩ = some (.bool F.1.stop) := HR6.out.blk.cell 2 _ rfl
          have c3 : w6.cell? ⟨pr, 3, none⟩ = some (.int .i64 F.1.want.kind) := HR6.out.blk.cell 3 _ rfl
          have c4 : w6.cell? ⟨pr, 4, none⟩ = some (.int .i64 F.1.want.who) := HR6.out.blk.cell 4 _ rfl
          have c5 : w6.cell? ⟨pr, 5, none⟩ = some (.int .i64 F.1.want.at_) := HR6.out.blk.cell 5 _ rfl
          have c6 : w6.cell? ⟨pr, 6, none⟩ = some (.int .u64 F.1.want.old) := HR6.out.blk.cell 6 _ rfl
          have c7 : w6.cell? ⟨pr, 7, none⟩ = some (.int .u64 F.1.want.new) := HR6.out.blk.cell 7 _ rfl
          have c8 : w6.cell? ⟨pr, 8, none⟩ = some (.bool F.1.want.done) := HR6.out.blk.cell 8 _ rfl
          have c9 : w6.cell? ⟨pr, 9, none⟩ = some (.bool F.1.sleep) := HR6.out.blk.cell 9 _ rfl
          go_wp2_with fail
          have HGT := Aside0.mk (show F.1.got = got by rw [HFE.out]; exact chain_got l _ _)
          clear c0 c1 c2 c3 c4 c5 c6 c7 c8 c9
          refine (Turn_calls 3 HK6.out.both.2.1 HR6.out.own (by rw [HGT.out]; have := HK.out.len; omega) (fun i hi e => (HK6.out.dg i e).2 (.inr hi)) HK6.out.bw.size (HK6.out.inv.ok (by omega)) ⟨HK6.out.inv.2.2.2, fun h => by rw [HG.out.want h]; exact HG.out.nn⟩ (HG.out.wk (by rw [HK.out.eq]; exact new_w0 _ _ _))).mono ?_
          rintro e w7 ⟨u7, rfl, hr7, ho7, hc7, hu7⟩
          have HT := Aside0.mk (HK6.out.turned hr7 ho7 hc7 hu7)
          clear hr7 ho7 hc7 hu7
          go_wp2_with fail
          refine (cStep_calls HT.out.ch HT.out.mem (fun i hi hj => HT.out.dm i hi (.inl hj)) (HK6.out.inv.ok (by omega)) HG.out.nn HK6.out.inv.2.2.2 (by rw [HG.out.got, HFE.out]; have := chain_len l (R0 got) []; simp only [List.length_nil] at this; omega) HG.out.kind).mono ?_
          rintro e w8 ⟨rfl, tv8, A8, cap8, vg8, h8, hm8, hc8, hn8⟩
          have HSA := Aside0.mk (show (s.step m).2 = (turnS m F.1 3).1 ∧ (s.step m).1 = mach (newS 3 l) (turnS m F.1 3).2 by rw [HFE.out, HK.out.eq]; exact step_alike l HR2.out 3 got m)
          rw [HSA.out.1] at hm8
          have HK8 := Aside0.mk (HT.out.stepped hm8 h8 hc8 hn8 (by rw [← HSA.out.1]; exact HG.out.inv (by rw [HK.out.eq]; exact new_w0 _ _ _) HK.out.inv) HSA.out.2 (turn_len m F.1 3 HGT.out HK.out.len))
          clear h8 hm8 hc8 hn8
          go_wp2_with fail
          refine (Alike_calls HK8.out.both).mono ?_
          rintro e w9 ⟨rfl, hb9⟩
          have HK9 := Aside0.mk (HK8.out.bwt hb9)
          clear hb9
          go_wp2_with fail
          go_roundw
          case rel => exact ⟨k + 1, _, _, _, vg8, tv8, A8, cap8, by omega, by go_num, HK9⟩
          case measure => simp [intOf]; omega
    · obtain rfl : k = ps.length := by omega
      obtain ⟨Ag, cg, rfl⟩ := own_slice HK.out.own
      have HRU := Aside0.mk (show IsRun (wr.alloc (.cells #[.slice Ag got.length cg, .int .i64 0, .bool false, .int .i64 0, .int .i64 0, .int .i64 0, .int .u64 0, .int .u64 0, .bool false, .bool false] 120)) w.heap.size wr.heap.size (.slice Ag got.length cg) (R0 got) from
        ⟨Blk.new wr _ _, pw_own_below HK.out.own ((Bw.refl wr).alloc _), by show got.length ≤ 262144; have := HK.out.len; omega, Nat.zero_le _⟩)
      have HWA := Aside0.mk (HK.out.bw.alloc (.cells #[.slice Ag got.length cg, .int .i64 0, .bool false, .int .i64 0, .int .i64 0, .int .i64 0, .int .u64 0, .int .u64 0, .bool false, .bool false] 120))
      go_wp2_with fail
      refine (Chain_calls HX2.out (by omega) HWA.out HK.out.bw.size HRU.out).mono ?_
      rintro e w4 ⟨u, rfl, hr4, ho4, hc4⟩
      have hb4 := hc4.below ((Bw.refl wr).alloc _) (fun i e => by rw [e]; exact Nat.le_refl _)
      have HK4 := Aside0.mk (HK.out.bwt hb4)
      obtain ⟨F, hF⟩ : ∃ F, F = RunS.chain l (R0 got) [] := ⟨_, rfl⟩
      rw [← hF] at hr4 ho4
      have HG := Aside0.mk (show Good s F by rw [hF, HK.out.eq]; exact good_of l HR2.out 3 got)
      have hFl : F.2.length ≤ 60 := by
        have := chain_len l (R0 got) []
        rw [← hF] at this
        simp only [List.length_nil] at this
        omega
      have HWL := Aside0.mk (show m.words.length ≤ 262144 by rw [HK.out.inv.1]; omega)
      have HSL := Aside0.mk (show s.got.length ≤ 262144 by rw [HG.out.got]; omega)
      obtain ⟨A4, c4, rfl, hR4⟩ := Rows.own (enc := fun x : Int => [Value.int .u64 x]) (xs := F.2) (fun _ => rfl) (by rw [nums_flat]; exact ho4) rfl (by omega)
      obtain ⟨A', c', hv'⟩ := own_slice HK.out.both.2.1.2.2.1
      obtain ⟨pr, hpr⟩ : ∃ pr, pr = wr.heap.size := ⟨_, rfl⟩
      rw [← hpr] at hr4 ⊢
      obtain ⟨st, hst⟩ : ∃ st, st = F.1.stop := ⟨_, rfl⟩
      have c2 : w4.cell? ⟨pr, 2, none⟩ = some (.bool st) := by rw [hst]; exact hr4.blk.cell 2 _ rfl
      have s5 := HK4.out.both.2.1.cells.1
      rw [hv'] at s5
      have HV' := Aside0.mk hv'
      have HVR := Aside0.mk (hR4.bw (Bw.refl w4).drew)
      have HSK := Aside0.mk (show (s.kind == 0) = !st by rw [hst, HG.out.stop]; simp)
      have HK4 := Aside0.mk (HK4.out.bwt (Bw.refl w4).drew)
      have eB : ((!st) == (!st)) = true := by cases st <;> rfl
      clear hr4 ho4 hc4 hb4 hF hpr hR4 hv' hst hFl
      go_wp2_with fail
      go_region_held3 (fun W => W.cell? ⟨pr, 2, none⟩ = some (.bool st) ∧ W.cell? ⟨b', 0, none⟩ = some (.slice A' m.words.length c')) (exact ⟨c2, s5⟩) ((first | (go_at_call 65; refine (fawake_calls _).mono ?_; rintro e w5 ⟨rfl, hb5⟩; have HK5 := Aside0.mk (HK4.out.bwt hb5); have HV5 := Aside0.mk (HVR.out.bw hb5); have c2 := hb5.kept (a := ⟨pr, 2, none⟩) c2; have s5 := hb5.kept (a := ⟨b', 0, none⟩) s5; clear hb5) | (go_at_call 69; refine (cDone_calls c s.kind _ (HK5.out.ch.blk.cell 1 _ rfl) (HK5.out.ch.blk.cell 7 _ rfl)).mono ?_; rintro e w6 ⟨rfl, hb6⟩; rw [HSK.out]; have HK6 := Aside0.mk (HK5.out.bwt hb6); have HV6 := Aside0.mk (HV5.out.bw hb6); have c2 := hb6.kept (a := ⟨pr, 2, none⟩) c2; have s5 := hb6.kept (a := ⟨b', 0, none⟩) s5; clear hb6) | (go_at_call 73; refine (cGot_calls HK6.out.ch HSL.out).mono ?_; rintro e w7 ⟨u7, rfl, hu7, hb7⟩; have HK7 := Aside0.mk (HK6.out.bwt hb7); have HV7 := Aside0.mk (HV6.out.bw hb7); have c2 := hb7.kept (a := ⟨pr, 2, none⟩) c2; have s5 := hb7.kept (a := ⟨b', 0, none⟩) s5; obtain ⟨A7, c7, rfl, hR7⟩ := Rows.own (enc := fun x : Int => [Value.int .u64 x]) (xs := s.got) (fun _ => rfl) (by rw [nums_flat]; exact hu7) rfl (Nat.le_trans HSL.out (by omega)); have HR7 := Aside0.mk hR7; clear hb7 hu7 hR7) | (go_at_call 37; refine (Same_calls A7 A4 c7 c4 s.got F.2 _ HR7.out HV7.out).mono ?_; rintro e w8 ⟨rfl, hb8⟩; rw [decide_eq_true HG.out.got]; have HK8 := Aside0.mk (HK7.out.bwt hb8); clear HR7; have c2 := hb8.kept (a := ⟨pr, 2, none⟩) c2; have s5 := hb8.kept (a := ⟨b', 0, none⟩) s5; clear hb8) | (go_at_call 38; refine (Words_calls _ b v m _ HK8.out.both.1 HWL.out).mono ?_; rintro e w9 ⟨u9, rfl, hu9, hb9⟩; have HK9 := Aside0.mk (HK8.out.bwt hb9); have c2 := hb9.kept (a := ⟨pr, 2, none⟩) c2; have s5 := hb9.kept (a := ⟨b', 0, none⟩) s5; obtain ⟨A9, c9, rfl, hR9⟩ := Rows.own (enc := fun x : Int => [Value.int .u64 x]) (xs := m.words) (fun _ => rfl) (by rw [nums_flat]; exact hu9) rfl (Nat.le_trans HWL.out (by omega)); have HR9 := Aside0.mk hR9; clear hb9 hu9 hR9) | (go_at_call 37; refine (Same_calls A9 A' c9 c' m.words m.words _ HR9.out (wordsRows HK9.out.both.2.1 HV'.out rfl HWL.out)).mono ?_; rintro e w10 ⟨rfl, hb10⟩; rw [decide_eq_true rfl]; have HWZ := Aside0.mk (HK9.out.bw.trans hb10); have c2 := hb10.kept (a := ⟨pr, 2, none⟩) c2; have s5 := hb10.kept (a := ⟨b', 0, none⟩) s5; clear hb10)))
      go_wp2_with fail
      go_ret
      exact ⟨rfl, HWZ.out⟩
end Go.Proofs.Ytclippikdfcgkaa.M
