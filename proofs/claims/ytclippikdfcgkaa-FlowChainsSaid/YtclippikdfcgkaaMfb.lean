/- The document's routine (package turnspitref07): Chain. Printed by wip/gen/flowchain.py. Conditions: no more than 2^18 answers, 1000 accesses. -/
import Derived.Test.YtclippikdfcgkaaMfa
namespace Go.Proofs.Ytclippikdfcgkaa.M
open Go.RowKit Go.Proofs.YtclippikdfcgkaaW.PrintWords Go.Proofs.YtclippikdfcgkaaW.PrintLast Go.Proofs.YtclippikdfcgkaaW.PrintMore
set_option linter.unusedVariables false
set_option linter.unusedSimpArgs false
section
variable {w w1 : World} {gb b : Nat} {v : Value} {r : RunS}
/-- What an access of a chain answers. -/
def RunS.acc (r : RunS) (a : Acc) : RunS × Int :=
  if a.kind = 0 then r.wait a.at_
  else if a.kind = 1 then r.do ⟨1, 0, a.at_, 0, 0, false⟩
  else if a.kind = 2 then ((r.do ⟨2, 0, a.at_, 0, a.new, false⟩).1, 0)
  else if a.kind = 3 then ((r.do ⟨3, 0, a.at_, a.old, a.new, false⟩).1, if ((r.do ⟨3, 0, a.at_, a.old, a.new, false⟩).2 == 1) = true then 1 else 0)
  else if a.kind = 4 then r.do ⟨4, 0, a.at_, 0, a.new, false⟩
  else (r, 0)
def RunS.chain : List Acc → RunS → List Int → RunS × List Int
  | [], r, out => (r, out)
  | a :: l, r, out => if r.stop = true then (r, out) else if (r.acc a).1.stop = false ∧ 0 ≤ a.kind ∧ a.kind ≤ 4 then RunS.chain l (r.acc a).1 (out ++ [(r.acc a).2]) else RunS.chain l (r.acc a).1 out
theorem RunS.chain_cons (a : Acc) (l : List Acc) (r : RunS) (out : List Int) (hs : r.stop = false) : RunS.chain (a :: l) r out = if (r.acc a).1.stop = false ∧ 0 ≤ a.kind ∧ a.kind ≤ 4 then RunS.chain l (r.acc a).1 (out ++ [(r.acc a).2]) else RunS.chain l (r.acc a).1 out := by
  show (if r.stop = true then _ else _) = _
  rw [if_neg (by rw [hs]; decide)]
theorem RunS.chain_stop (l : List Acc) (r : RunS) (out : List Int) (hs : r.stop = true) : RunS.chain l r out = (r, out) := by
  cases l
  · rfl
  · show (if r.stop = true then _ else _) = _
    rw [if_pos hs]
theorem IsRun.chg {S : Nat → Prop} (h : IsRun w gb b v r) (hc : Chg S w w1) (hd : ∀ i, (i = b ∨ v.ownBlock = some i) → ¬ S i) : IsRun w1 gb b v r :=
  ⟨h.blk.of_block (hc.block b h.blk.lt (hd b (.inl rfl))), own_of_block h.own (fun k hk => hc.block k (own_lt h.own k hk) (hd k (.inr hk))), h.len, h.le⟩
theorem IsRun.k2 (h : IsRun w gb b v r) {s : Bool} (hs : r.stop = s) : w.cell? ⟨b, 2, none⟩ = some (.bool s) := by rw [← hs]; exact h.blk.cell 2 _ rfl
/-- Where a round of Chain stands. -/
structure AtCh (w0 w wr : World) (gb b : Nat) (v u : Value) (F : RunS × List Int) (l : List Acc) (k : Nat) (r' : RunS) (out : List Int) : Prop where
  run : IsRun wr gb b v r'
  chg : Chg (fun i => i = b) w wr
  bw : Bw w0 wr
  own : wr.ownsRow w.heap.size 55 1 u out.length (nums .u64 out)
  fin : F = RunS.chain (l.drop k) r' out
  len : out.length ≤ k

structure AtMid (w0 w w3 : World) (gb b : Nat) (v u : Value) (d : RunS) (out : List Int) : Prop where
  run : IsRun w3 gb b v d
  chg : Chg (fun i => i = b) w w3
  bw : Bw w0 w3
  own : w3.ownsRow w.heap.size 55 1 u out.length (nums .u64 out)
section
variable {w0 wr w2 w3 w4 : World} {u : Value} {F : RunS × List Int} {l : List Acc} {k : Nat} {r' d : RunS} {out : List Int} {a : Acc} {y : Int}
theorem AtCh.call (h : AtCh w0 w wr gb b v u F l k r' out) (hb2 : Bw wr w2) (hr : IsRun w3 gb b v d) (hc : Chg (fun i => i = b) w2 w3) (hbb : w0.heap.size ≤ b) (hlt : b < w.heap.size) : AtMid w0 w w3 gb b v u d out :=
  ⟨hr, (h.chg.trans (Chg.of_bw hb2)).trans hc, hc.below (h.bw.trans hb2) (fun i e => e ▸ hbb), by
    have h1 := pw_own_below h.own hb2
    exact own_of_block h1 (fun j hj => hc.block j (own_lt h1 j hj) (fun e => by have := own_base h1 j hj; omega))⟩
theorem drop_at (hk : l[k]? = some a) : l.drop k = a :: l.drop (k + 1) := by
  obtain ⟨hlt, rfl⟩ := List.getElem?_eq_some_iff.1 hk
  exact List.drop_eq_getElem_cons hlt
theorem AtCh.push (h : AtCh w0 w wr gb b v u F l k r' out) (hs : r'.stop = false) (hk : l[k]? = some a) (hd : r'.acc a = (d, y)) (h1 : d.stop = false) (h2 : 0 ≤ a.kind ∧ a.kind ≤ 4) : F = RunS.chain (l.drop (k + 1)) d (out ++ [y]) := by
  rw [h.fin, drop_at hk, RunS.chain_cons _ _ _ _ hs, hd, if_pos ⟨h1, h2⟩]
theorem AtCh.skip (h : AtCh w0 w wr gb b v u F l k r' out) (hs : r'.stop = false) (hk : l[k]? = some a) (hd : r'.acc a = (d, y)) (h1 : ¬ (d.stop = false ∧ 0 ≤ a.kind ∧ a.kind ≤ 4)) : F = RunS.chain (l.drop (k + 1)) d out := by
  rw [h.fin, drop_at hk, RunS.chain_cons _ _ _ _ hs, hd, if_neg h1]
theorem AtMid.next (h : AtMid w0 w w3 gb b v u d out) (hF : F = RunS.chain (l.drop (k + 1)) d out) (hl : out.length ≤ k) : AtCh w0 w w3 gb b v u F l (k + 1) d out := ⟨h.run, h.chg, h.bw, h.own, hF, by omega⟩
theorem AtMid.grow {u4 : Value} (h : AtMid w0 w w3 gb b v u d out) (hb : Bw w3 w2) (hg : w2.grownBy w4 u.ownBlock) (ho : w4.ownsRow w.heap.size 55 1 u4 (out ++ [y]).length (nums .u64 (out ++ [y]))) (hlt : ∀ i, (i = b ∨ v.ownBlock = some i) → i < w.heap.size) (hw0 : w0.heap.size ≤ w.heap.size) (hF : F = RunS.chain (l.drop (k + 1)) d (out ++ [y])) (hl : out.length ≤ k) : AtCh w0 w w4 gb b v u4 F l (k + 1) d (out ++ [y]) := by
  have hc := Chg.of_grown hg
  have hge : ∀ i, u.ownBlock = some i → w.heap.size ≤ i := fun i hi => own_base h.own i hi
  refine ⟨(h.run.bw hb).chg hc (fun i hi hj => by have := hlt i hi; have := hge i hj; omega), ?_, hc.below (h.bw.trans hb) (fun i hi => Nat.le_trans hw0 (hge i hi)), ho, hF, by simp; omega⟩
  have h1 := h.chg.trans (Chg.of_bw hb : Chg (fun i => i = b) w3 w2)
  exact ⟨hc.os.trans h1.os, hc.tape.trans h1.tape, hc.output.trans h1.output, Nat.le_trans h1.size hc.size, fun i hi hn => (hc.block i (Nat.lt_of_lt_of_le hi h1.size) (fun e => by have := hge i e; omega)).trans (h1.block i hi hn)⟩
end
set_option maxHeartbeats 4000000 in
set_option maxRecDepth 100000 in
theorem Chain_calls {w0 : World} {A : Option Addr} {cap : Nat} {l : List Acc} (hx : Rows encAc 6 w0 A l) (hl : l.length ≤ 1000) (hb0 : Bw w0 w) (hbb : w0.heap.size ≤ b) (h : IsRun w gb b v r) :
    Calls Try.prog 67 #[.pointer (some ⟨b, 0, none⟩), .slice A l.length cap] w fun e w' => ∃ u, e = .returned u ∧ IsRun w' gb b v (RunS.chain l r []).1 ∧ w'.ownsRow w.heap.size 55 1 u (RunS.chain l r []).2.length (nums .u64 (RunS.chain l r []).2) ∧ Chg (fun i => i = b) w w' := by
  have HX := Aside0.mk hx
  obtain ⟨F, hF⟩ : ∃ F, F = RunS.chain l r [] := ⟨_, rfl⟩
  rw [← hF]
  have HLT := Aside0.mk (show ∀ i, (i = b ∨ v.ownBlock = some i) → i < w.heap.size by
    rintro i (rfl | hi)
    · exact h.blk.lt
    · exact own_lt h.own i hi)
  have HBB := Aside0.mk hbb
  have HSZ := Aside0.mk hb0.size
  have HA := Aside0.mk (show AtCh w0 w w gb b v (.slice none 0 0) F l 0 r [] from ⟨h, Chg.refl _ _, hb0, own_nil _ _ _ _, hF, Nat.le_refl _⟩)
  clear hx hF h hb0 hbb
  go_enter Try.func67, Try.ntmps67
  go_wp2_with fail
  go_loopw [5, 6] (fun u iv wr => ∃ (k : Nat) (r' : RunS) (out : List Int), k ≤ l.length ∧ iv = .int .i64 k ∧ Aside0 (AtCh w0 w wr gb b v u F l k r' out)) (fun _ iv _ => l.length - (intOf iv).toNat)
  case atStart => exact ⟨0, r, [], by omega, rfl, HA⟩
  case round =>
    obtain ⟨k, r', out, hk, rfl, HK⟩ := hrel
    by_cases hlt : k < l.length
    · cases hst : r'.stop
      · have k2 := HK.out.run.k2 hst
        have HST := Aside0.mk hst
        obtain ⟨a, ha⟩ : ∃ a, l[k]? = some a := ⟨_, List.getElem?_eq_getElem hlt⟩
        obtain ⟨ad, rfl, s0, hi⟩ := (HX.out.bw HK.out.bw).atS k a ha
        have s0 : wr.cell? (ad.add (k * 6)) = some (.int .i64 a.kind) := s0 _ rfl
        have s1 : wr.cell? ⟨(ad.add (k * 6)).block, (ad.add (k * 6)).off + 1, none⟩ = some (.int .i64 a.who) := hi 1 _ (by decide) rfl
        have s2 : wr.cell? ⟨(ad.add (k * 6)).block, (ad.add (k * 6)).off + 2, none⟩ = some (.int .i64 a.at_) := hi 2 _ (by decide) rfl
        have s3 : wr.cell? ⟨(ad.add (k * 6)).block, (ad.add (k * 6)).off + 3, none⟩ = some (.int .u64 a.old) := hi 3 _ (by decide) rfl
        have s4 : wr.cell? ⟨(ad.add (k * 6)).block, (ad.add (k * 6)).off + 4, none⟩ = some (.int .u64 a.new) := hi 4 _ (by decide) rfl
        have s5 : wr.cell? ⟨(ad.add (k * 6)).block, (ad.add (k * 6)).off + 5, none⟩ = some (.bool a.done) := hi 5 _ (by decide) rfl
        have hlb := HK.out.run.blk.lt
        have HAK := Aside0.mk ha
        clear hi ha hst
        obtain ⟨kind, who, at_, old, new, done⟩ := a
        have HB2 := Aside0.mk ((Bw.refl wr).alloc (.cells #[.int .i64 kind, .int .i64 who, .int .i64 at_, .int .u64 old, .int .u64 new, .bool done] 76))
        have HP := Aside0.mk (Blk.new wr #[.int .i64 kind, .int .i64 who, .int .i64 at_, .int .u64 old, .int .u64 new, .bool done] 76)
        have HR2 := Aside0.mk (HK.out.run.bw HB2.out)
        have HNE := Aside0.mk (show ¬ wr.heap.size = b by omega)
        by_cases h0 : kind = 0
        · subst h0
          go_wp2_with fail
          refine (Wait_calls at_ HR2.out HST.out).mono ?_
          rintro e w3 ⟨rfl, hr3, hc3⟩
          obtain ⟨D, hD⟩ : ∃ D, D = (r'.wait at_).1 := ⟨_, rfl⟩
          obtain ⟨Y, hY⟩ : ∃ Y, Y = (r'.wait at_).2 := ⟨_, rfl⟩
          have HACC := Aside0.mk (show r'.acc ⟨0, who, at_, old, new, done⟩ = (D, Y) by rw [hD, hY]; rfl)
          rw [← hD] at hr3
          try rw [← hY]
          have HM := Aside0.mk (HK.out.call HB2.out hr3 hc3 HBB.out (HLT.out b (.inl rfl)))
          have HP3 := Aside0.mk (HP.out.of_block (hc3.block _ HP.out.lt HNE.out))
          have p0 := HP3.out.cell 0 _ rfl
          have lp := HP3.out.lt
          have lb := HM.out.run.blk.lt
          clear hr3 hc3 hD hY k2 s0 s1 s2 s3 s4 s5
          cases hs3 : D.stop
          · have k2 := HM.out.run.k2 hs3
            have HF := Aside0.mk (HK.out.push HST.out HAK.out HACC.out hs3 ⟨by show (0 : Int) ≤ 0; omega, by show (0 : Int) ≤ 4; omega⟩)
            have HO := Aside0.mk (pw_own_below HM.out.own ((Bw.refl w3).alloc (.cells #[.int .u64 (Y)] 55)))
            have HL := Aside0.mk HK.out.len
            clear hs3
            go_wp2_with (at_builtin; go_loud (refine print_append_num (w0 := w3) w.heap.size rfl (.tmp 86) (.tmp 88) 41 55 .u64 8 rfl Try.underlying41 infoU (by omega) u5 out (Y) rfl rfl HM.out.own (Below.refl _ _) (HM.out.chg.size) (by have := HL.out; omega) ?_); intro u4 w4 hown4 hbel4 hg4 hat4)
            go_roundw
            case rel =>
              exact ⟨k + 1, D, out ++ [Y], by omega, by go_num, ⟨HM.out.grow (Bw.refl w3) hg4 hown4 HLT.out HSZ.out HF.out HL.out⟩⟩
            case measure => simp [intOf]; omega
          · have k2 := HM.out.run.k2 hs3
            have HF := Aside0.mk (HK.out.skip HST.out HAK.out HACC.out (fun h => by rw [hs3] at h; cases h.1))
            clear hs3
            go_wp2_with fail
            go_roundw
            case rel => exact ⟨k + 1, D, out, by omega, by go_num, ⟨HM.out.next HF.out HK.out.len⟩⟩
            case measure => simp [intOf]; omega
        by_cases h1 : kind = 1
        · subst h1
          go_wp2_with fail
          refine (rLoad_calls at_ HR2.out).mono ?_
          rintro e w3 ⟨rfl, hr3, hc3⟩
          obtain ⟨D, hD⟩ : ∃ D, D = (r'.do ⟨1, 0, at_, 0, 0, false⟩).1 := ⟨_, rfl⟩
          obtain ⟨Y, hY⟩ : ∃ Y, Y = (r'.do ⟨1, 0, at_, 0, 0, false⟩).2 := ⟨_, rfl⟩
          have HACC := Aside0.mk (show r'.acc ⟨1, who, at_, old, new, done⟩ = (D, Y) by rw [hD, hY]; rfl)
          rw [← hD] at hr3
          try rw [← hY]
          have HM := Aside0.mk (HK.out.call HB2.out hr3 hc3 HBB.out (HLT.out b (.inl rfl)))
          have HP3 := Aside0.mk (HP.out.of_block (hc3.block _ HP.out.lt HNE.out))
          have p0 := HP3.out.cell 0 _ rfl
          have lp := HP3.out.lt
          have lb := HM.out.run.blk.lt
          clear hr3 hc3 hD hY k2 s0 s1 s2 s3 s4 s5
          cases hs3 : D.stop
          · have k2 := HM.out.run.k2 hs3
            have HF := Aside0.mk (HK.out.push HST.out HAK.out HACC.out hs3 ⟨by show (0 : Int) ≤ 1; omega, by show (1 : Int) ≤ 4; omega⟩)
            have HO := Aside0.mk (pw_own_below HM.out.own ((Bw.refl w3).alloc (.cells #[.int .u64 (Y)] 55)))
            have HL := Aside0.mk HK.out.len
            clear hs3
            go_wp2_with (at_builtin; go_loud (refine print_append_num (w0 := w3) w.heap.size rfl (.tmp 86) (.tmp 88) 41 55 .u64 8 rfl Try.underlying41 infoU (by omega) u5 out (Y) rfl rfl HM.out.own (Below.refl _ _) (HM.out.chg.size) (by have := HL.out; omega) ?_); intro u4 w4 hown4 hbel4 hg4 hat4)
            go_roundw
            case rel =>
              exact ⟨k + 1, D, out ++ [Y], by omega, by go_num, ⟨HM.out.grow (Bw.refl w3) hg4 hown4 HLT.out HSZ.out HF.out HL.out⟩⟩
            case measure => simp [intOf]; omega
          · have k2 := HM.out.run.k2 hs3
            have HF := Aside0.mk (HK.out.skip HST.out HAK.out HACC.out (fun h => by rw [hs3] at h; cases h.1))
            clear hs3
            go_wp2_with fail
            go_roundw
            case rel => exact ⟨k + 1, D, out, by omega, by go_num, ⟨HM.out.next HF.out HK.out.len⟩⟩
            case measure => simp [intOf]; omega
        by_cases h2 : kind = 2
        · subst h2
          go_wp2_with fail
          refine (rStore_calls at_ new HR2.out).mono ?_
          rintro e w3 ⟨rfl, hr3, hc3⟩
          obtain ⟨D, hD⟩ : ∃ D, D = (r'.do ⟨2, 0, at_, 0, new, false⟩).1 := ⟨_, rfl⟩
          obtain ⟨Y, hY⟩ : ∃ Y, Y = (r'.do ⟨2, 0, at_, 0, new, false⟩).2 := ⟨_, rfl⟩
          have HACC := Aside0.mk (show r'.acc ⟨2, who, at_, old, new, done⟩ = (D, 0) by rw [hD]; rfl)
          rw [← hD] at hr3
          have HM := Aside0.mk (HK.out.call HB2.out hr3 hc3 HBB.out (HLT.out b (.inl rfl)))
          have HP3 := Aside0.mk (HP.out.of_block (hc3.block _ HP.out.lt HNE.out))
          have p0 := HP3.out.cell 0 _ rfl
          have lp := HP3.out.lt
          have lb := HM.out.run.blk.lt
          clear hr3 hc3 hD hY k2 s0 s1 s2 s3 s4 s5
          cases hs3 : D.stop
          · have k2 := HM.out.run.k2 hs3
            have HF := Aside0.mk (HK.out.push HST.out HAK.out HACC.out hs3 ⟨by show (0 : Int) ≤ 2; omega, by show (2 : Int) ≤ 4; omega⟩)
            have HO := Aside0.mk (pw_own_below HM.out.own ((Bw.refl w3).alloc (.cells #[.int .u64 (0)] 55)))
            have HL := Aside0.mk HK.out.len
            clear hs3
            go_wp2_with (at_builtin; go_loud (refine print_append_num (w0 := w3) w.heap.size rfl (.tmp 86) (.tmp 88) 41 55 .u64 8 rfl Try.underlying41 infoU (by omega) u5 out (0) rfl rfl HM.out.own (Below.refl _ _) (HM.out.chg.size) (by have := HL.out; omega) ?_); intro u4 w4 hown4 hbel4 hg4 hat4)
            go_roundw
            case rel =>
              exact ⟨k + 1, D, out ++ [0], by omega, by go_num, ⟨HM.out.grow (Bw.refl w3) hg4 hown4 HLT.out HSZ.out HF.out HL.out⟩⟩
            case measure => simp [intOf]; omega
          · have k2 := HM.out.run.k2 hs3
            have HF := Aside0.mk (HK.out.skip HST.out HAK.out HACC.out (fun h => by rw [hs3] at h; cases h.1))
            clear hs3
            go_wp2_with fail
            go_roundw
            case rel => exact ⟨k + 1, D, out, by omega, by go_num, ⟨HM.out.next HF.out HK.out.len⟩⟩
            case measure => simp [intOf]; omega
        by_cases h3 : kind = 3
        · subst h3
          go_wp2_with fail
          refine (rSwap_calls at_ old new HR2.out).mono ?_
          rintro e w3 ⟨rfl, hr3, hc3⟩
          obtain ⟨D, hD⟩ : ∃ D, D = (r'.do ⟨3, 0, at_, old, new, false⟩).1 := ⟨_, rfl⟩
          obtain ⟨Y, hY⟩ : ∃ Y, Y = (r'.do ⟨3, 0, at_, old, new, false⟩).2 := ⟨_, rfl⟩
          have HACC := Aside0.mk (show r'.acc ⟨3, who, at_, old, new, done⟩ = (D, if (Y == 1) = true then 1 else 0) by rw [hD, hY]; rfl)
          rw [← hD] at hr3
          try rw [← hY]
          have HM := Aside0.mk (HK.out.call HB2.out hr3 hc3 HBB.out (HLT.out b (.inl rfl)))
          have HP3 := Aside0.mk (HP.out.of_block (hc3.block _ HP.out.lt HNE.out))
          have p0 := HP3.out.cell 0 _ rfl
          have lp := HP3.out.lt
          have lb := HM.out.run.blk.lt
          clear hr3 hc3 hD hY k2 s0 s1 s2 s3 s4 s5
          cases hY1 : (Y == 1)
          · rw [hY1] at HACC
            cases hs3 : D.stop
            · have k2 := HM.out.run.k2 hs3
              have HF := Aside0.mk (HK.out.push HST.out HAK.out (show r'.acc _ = (D, 0) from HACC.out) hs3 ⟨by show (0 : Int) ≤ 3; omega, by show (3 : Int) ≤ 4; omega⟩)
              have HO := Aside0.mk (pw_own_below HM.out.own ((Bw.refl w3).alloc (.cells #[.int .u64 (0)] 55)))
              have HL := Aside0.mk HK.out.len
              clear hs3
              go_wp2_with (at_builtin; go_loud (refine print_append_num (w0 := w3) w.heap.size rfl (.tmp 86) (.tmp 88) 41 55 .u64 8 rfl Try.underlying41 infoU (by omega) u5 out (0) rfl rfl HM.out.own (Below.refl _ _) (HM.out.chg.size) (by have := HL.out; omega) ?_); intro u4 w4 hown4 hbel4 hg4 hat4)
              go_roundw
              case rel =>
                exact ⟨k + 1, D, out ++ [0], by omega, by go_num, ⟨HM.out.grow (Bw.refl w3) hg4 hown4 HLT.out HSZ.out HF.out HL.out⟩⟩
              case measure => simp [intOf]; omega
            · have k2 := HM.out.run.k2 hs3
              have HF := Aside0.mk (HK.out.skip HST.out HAK.out (show r'.acc _ = (D, 0) from HACC.out) (fun h => by rw [hs3] at h; cases h.1))
              clear hs3
              go_wp2_with fail
              go_roundw
              case rel => exact ⟨k + 1, D, out, by omega, by go_num, ⟨HM.out.next HF.out HK.out.len⟩⟩
              case measure => simp [intOf]; omega
          · rw [hY1] at HACC
            cases hs3 : D.stop
            · have k2 := HM.out.run.k2 hs3
              have HF := Aside0.mk (HK.out.push HST.out HAK.out (show r'.acc _ = (D, 1) from HACC.out) hs3 ⟨by show (0 : Int) ≤ 3; omega, by show (3 : Int) ≤ 4; omega⟩)
              have HO := Aside0.mk (pw_own_below HM.out.own ((Bw.refl w3).alloc (.cells #[.int .u64 (1)] 55)))
              have HL := Aside0.mk HK.out.len
              clear hs3
              go_wp2_with (at_builtin; go_loud (refine print_append_num (w0 := w3) w.heap.size rfl (.tmp 86) (.tmp 88) 41 55 .u64 8 rfl Try.underlying41 infoU (by omega) u5 out (1) rfl rfl HM.out.own (Below.refl _ _) (HM.out.chg.size) (by have := HL.out; omega) ?_); intro u4 w4 hown4 hbel4 hg4 hat4)
              go_roundw
              case rel =>
                exact ⟨k + 1, D, out ++ [1], by omega, by go_num, ⟨HM.out.grow (Bw.refl w3) hg4 hown4 HLT.out HSZ.out HF.out HL.out⟩⟩
              case measure => simp [intOf]; omega
            · have k2 := HM.out.run.k2 hs3
              have HF := Aside0.mk (HK.out.skip HST.out HAK.out (show r'.acc _ = (D, 1) from HACC.out) (fun h => by rw [hs3] at h; cases h.1))
              clear hs3
              go_wp2_with fail
              go_roundw
              case rel => exact ⟨k + 1, D, out, by omega, by go_num, ⟨HM.out.next HF.out HK.out.len⟩⟩
              case measure => simp [intOf]; omega
        by_cases h4 : kind = 4
        · subst h4
          go_wp2_with fail
          refine (rAdd_calls at_ new HR2.out).mono ?_
          rintro e w3 ⟨rfl, hr3, hc3⟩
          obtain ⟨D, hD⟩ : ∃ D, D = (r'.do ⟨4, 0, at_, 0, new, false⟩).1 := ⟨_, rfl⟩
          obtain ⟨Y, hY⟩ : ∃ Y, Y = (r'.do ⟨4, 0, at_, 0, new, false⟩).2 := ⟨_, rfl⟩
          have HACC := Aside0.mk (show r'.acc ⟨4, who, at_, old, new, done⟩ = (D, Y) by rw [hD, hY]; rfl)
          rw [← hD] at hr3
          try rw [← hY]
          have HM := Aside0.mk (HK.out.call HB2.out hr3 hc3 HBB.out (HLT.out b (.inl rfl)))
          have HP3 := Aside0.mk (HP.out.of_block (hc3.block _ HP.out.lt HNE.out))
          have p0 := HP3.out.cell 0 _ rfl
          have lp := HP3.out.lt
          have lb := HM.out.run.blk.lt
          clear hr3 hc3 hD hY k2 s0 s1 s2 s3 s4 s5
          cases hs3 : D.stop
          · have k2 := HM.out.run.k2 hs3
            have HF := Aside0.mk (HK.out.push HST.out HAK.out HACC.out hs3 ⟨by show (0 : Int) ≤ 4; omega, by show (4 : Int) ≤ 4; omega⟩)
            have HO := Aside0.mk (pw_own_below HM.out.own ((Bw.refl w3).alloc (.cells #[.int .u64 (Y)] 55)))
            have HL := Aside0.mk HK.out.len
            clear hs3
            go_wp2_with (at_builtin; go_loud (refine print_append_num (w0 := w3) w.heap.size rfl (.tmp 86) (.tmp 88) 41 55 .u64 8 rfl Try.underlying41 infoU (by omega) u5 out (Y) rfl rfl HM.out.own (Below.refl _ _) (HM.out.chg.size) (by have := HL.out; omega) ?_); intro u4 w4 hown4 hbel4 hg4 hat4)
            go_roundw
            case rel =>
              exact ⟨k + 1, D, out ++ [Y], by omega, by go_num, ⟨HM.out.grow (Bw.refl w3) hg4 hown4 HLT.out HSZ.out HF.out HL.out⟩⟩
            case measure => simp [intOf]; omega
          · have k2 := HM.out.run.k2 hs3
            have HF := Aside0.mk (HK.out.skip HST.out HAK.out HACC.out (fun h => by rw [hs3] at h; cases h.1))
            clear hs3
            go_wp2_with fail
            go_roundw
            case rel => exact ⟨k + 1, D, out, by omega, by go_num, ⟨HM.out.next HF.out HK.out.len⟩⟩
            case measure => simp [intOf]; omega
        have e0 : (kind == 0) = false := by simpa using h0
        have e1 : (kind == 1) = false := by simpa using h1
        have e2 : (kind == 2) = false := by simpa using h2
        have e3 : (kind == 3) = false := by simpa using h3
        have e4 : (kind == 4) = false := by simpa using h4
        have HACC := Aside0.mk (show r'.acc ⟨kind, who, at_, old, new, done⟩ = (r', 0) by unfold RunS.acc; rw [if_neg h0, if_neg h1, if_neg h2, if_neg h3, if_neg h4])
        have HF := Aside0.mk (HK.out.skip HST.out HAK.out HACC.out (fun h => by have h5 : (0 : Int) ≤ kind ∧ kind ≤ 4 := h.2; omega))
        have HM := Aside0.mk (HK.out.call HB2.out HR2.out (Chg.refl _ _) HBB.out (HLT.out b (.inl rfl)))
        by_cases g0 : kind < 0
        · have d0 : decide (0 ≤ kind) = false := by simp; omega
          clear h0 h1 h2 h3 h4
          go_wp2_with fail
          go_roundw
          case rel => exact ⟨k + 1, r', out, by omega, by go_num, ⟨HM.out.next HF.out HK.out.len⟩⟩
          case measure => simp [intOf]; omega
        · have d0 : decide (0 ≤ kind) = true := by simp; omega
          have d1 : decide (kind ≤ 4) = false := by simp; omega
          clear h0 h1 h2 h3 h4
          go_wp2_with fail
          go_roundw
          case rel => exact ⟨k + 1, r', out, by omega, by go_num, ⟨HM.out.next HF.out HK.out.len⟩⟩
          case measure => simp [intOf]; omega
      · have k2 := HK.out.run.k2 hst
        have HST := Aside0.mk hst
        have hlb := HK.out.run.blk.lt
        clear hst
        go_wp2_with fail
        go_ret
        have hF := HK.out.fin
        rw [RunS.chain_stop _ _ _ HST.out] at hF
        rw [hF]
        exact ⟨_, rfl, HK.out.run, HK.out.own, HK.out.chg⟩
    · go_wp2_with fail
      go_ret
      have hF := HK.out.fin
      rw [List.drop_eq_nil_of_le (by omega)] at hF
      rw [hF]
      exact ⟨_, rfl, HK.out.run, HK.out.own, HK.out.chg⟩
end
end Go.Proofs.Ytclippikdfcgkaa.M
