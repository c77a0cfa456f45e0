/- The document's Turn (package turnspitref07). Conditions: counters below 2^62, no more than 2^18 answers. -/
import Derived.Test.YtclippikdfcgkaaMfb
namespace Go.Proofs.Ytclippikdfcgkaa.M
open Go.RowKit Go.Proofs.YtclippikdfcgkaaW.PrintWords Go.Proofs.YtclippikdfcgkaaW.PrintLast Go.Proofs.YtclippikdfcgkaaW.PrintMore
set_option linter.unusedVariables false
set_option linter.unusedSimpArgs false
section
variable {w w1 : World} {gb base b : Nat} {v vm : Value} {r : RunS} {m : MemS}
def turnS (m : MemS) (r : RunS) (who : Int) : MemS × List Int :=
  if r.stop = false then (m, r.got)
  else if (r.sleep && (m.peek r.want.at_).1 == 0) = true then (m, r.got)
  else ((m.act r.want.kind who r.want.at_ r.want.old r.want.new).1, r.got ++ [(m.act r.want.kind who r.want.at_ r.want.old r.want.new).2])
def TurnPost (w : World) (gb base b : Nat) (v vm : Value) (F : MemS × List Int) (e : Ending) (w' : World) : Prop :=
  ∃ u, e = .returned u ∧ IsRef w' base b vm F.1 ∧ w'.ownsRow gb 55 1 u F.2.length (nums .u64 F.2) ∧ Chg (fun i => MemF b vm i ∨ v.ownBlock = some i) w w' ∧ (u.ownBlock = v.ownBlock ∨ ∃ k, u.ownBlock = some k ∧ w.heap.size ≤ k)
theorem Turn_calls (who : Int) (hm : IsRef w base b vm m) (ho : w.ownsRow gb 55 1 v r.got.length (nums .u64 r.got)) (hl : r.got.length ≤ 1000000) (hd : ∀ i, MemF b vm i → v.ownBlock ≠ some i) (hgb : gb ≤ w.heap.size)
    (hok : m.ok) (hr : (∀ y ∈ m.words, 0 ≤ y) ∧ (r.stop = true → 0 ≤ r.want.new)) (hk : r.stop = true → (r.want.kind = 1 ∧ r.want.new = 0 ∨ r.want.kind = 2 ∨ r.want.kind = 3 ∨ r.want.kind = 4)) :
    Calls Try.prog 71 #[.pointer (some ⟨b, 0, none⟩), .agg (runCells v r), .int .i64 who] w (TurnPost w gb base b v vm (turnS m r who)) := by
  have HB := Aside0.mk (Bw.refl w)
  have HM := Aside0.mk hm
  have HO := Aside0.mk ho
  obtain ⟨F, hF⟩ : ∃ F, F = turnS m r who := ⟨_, rfl⟩
  rw [← hF]
  obtain ⟨got, used, stop, want, sleep⟩ := r
  obtain ⟨kind, who', at_, old, new, done⟩ := want
  simp only at hr hk hl
  simp only [runCells]
  cases stop
  · have HF := Aside0.mk (show F = (m, got) from hF)
    clear hF hm ho hl hd hok hr hk
    go_enter Try.func71, Try.ntmps71
    go_wp2_with fail
    go_ret
    rw [HF.out]
    have hb := HB.out.alloc (.cells (runCells v ⟨got, used, false, ⟨kind, who', at_, old, new, done⟩, sleep⟩) 120)
    exact ⟨v, rfl, HM.out.bw hb, pw_own_below HO.out hb, Chg.of_bw hb, .inl rfl⟩
  · have HD := Aside0.mk hd
    have HLN := Aside0.mk hl
    have HDo := Aside0.mk (fun (w1 : World) (h : IsRef w1 base b vm m) => refDo_calls kind who at_ old new (hk rfl) h hok ⟨hr.1, hr.2 rfl⟩)
    obtain ⟨x, hx⟩ : ∃ x, x = (m.peek at_).1 := ⟨_, rfl⟩
    have HX := Aside0.mk hx
    cases hs : (sleep && x == 0)
    · have HF := Aside0.mk (show F = ((m.act kind who at_ old new).1, got ++ [(m.act kind who at_ old new).2]) by
        rw [hF]; unfold turnS; rw [if_neg (by simp), if_neg (by simp only; rw [← hx, hs]; simp)])
      obtain ⟨y, hy⟩ : ∃ y, y = (m.act kind who at_ old new).2 := ⟨_, rfl⟩
      rw [← hy] at HF HDo
      obtain ⟨m', hm'⟩ : ∃ m', m' = (m.act kind who at_ old new).1 := ⟨_, rfl⟩
      rw [← hm'] at HF HDo
      clear hF hm ho hd hok hr hk hx hy hm'
      cases sleep
      · clear hs
        go_enter Try.func71, Try.ntmps71
        go_wp2_with fail
        have hb1 := HB.out.alloc (.cells #[v, .int .i64 used, .bool true, .int .i64 kind, .int .i64 who', .int .i64 at_, .int .u64 old, .int .u64 new, .bool done, .bool false] 120)
        obtain ⟨w1, hw1⟩ : ∃ w1, w1 = w.alloc (.cells #[v, .int .i64 used, .bool true, .int .i64 kind, .int .i64 who', .int .i64 at_, .int .u64 old, .int .u64 new, .bool done, .bool false] 120) := ⟨_, rfl⟩
        have HP := Aside0.mk (Blk.new w #[v, .int .i64 used, .bool true, .int .i64 kind, .int .i64 who', .int .i64 at_, .int .u64 old, .int .u64 new, .bool done, .bool false] 120)
        rw [← hw1] at hb1 HP ⊢
        clear hw1
        have HW1 := Aside0.mk hb1
        have HM1 := Aside0.mk (HM.out.bw hb1)
        have HO1 := Aside0.mk (pw_own_below HO.out hb1)

        refine (HDo.out _ HM1.out).mono ?_
        rintro e w2 ⟨rfl, hm2, hc2⟩
        have HM2 := Aside0.mk hm2
        have HO2 := Aside0.mk (own_of_block HO1.out (fun j hj => hc2.block j (own_lt HO1.out j hj) (fun e => HD.out j e hj)))
        have HC2 := Aside0.mk ((Chg.of_bw HW1.out : Chg (MemF b vm) w _).trans hc2)
        clear hm2 hc2
        go_wp2_with (at_builtin; go_loud (refine print_append_num (w0 := w2) gb rfl (.tmp 31) (.tmp 47) 41 55 .u64 8 rfl Try.underlying41 infoU (by omega) v got y rfl rfl HO2.out (Below.refl _ _) (Nat.le_trans hgb HC2.out.size) (by omega) ?_); intro u w3 hown hbel hg hat)
        go_ret
        rw [HF.out]
        refine ⟨u, rfl, HM2.out.chg (Chg.of_grown hg) (fun i hi hj => HD.out i hi hj), hown, (HC2.out.mono fun i hi => .inl hi).trans ((Chg.of_grown hg).mono fun i hi => .inr hi), ?_⟩
        rcases hat with e | ⟨k, e, hk⟩
        · exact .inl e
        · exact .inr ⟨k, e, Nat.le_trans HC2.out.size hk⟩
      · have e1 : (x == 0) = false := by simpa using hs
        clear hs
        go_enter Try.func71, Try.ntmps71
        go_wp2_with fail
        have hb1 := HB.out.alloc (.cells #[v, .int .i64 used, .bool true, .int .i64 kind, .int .i64 who', .int .i64 at_, .int .u64 old, .int .u64 new, .bool done, .bool true] 120)
        obtain ⟨w1, hw1⟩ : ∃ w1, w1 = w.alloc (.cells #[v, .int .i64 used, .bool true, .int .i64 kind, .int .i64 who', .int .i64 at_, .int .u64 old, .int .u64 new, .bool done, .bool true] 120) := ⟨_, rfl⟩
        have HP := Aside0.mk (Blk.new w #[v, .int .i64 used, .bool true, .int .i64 kind, .int .i64 who', .int .i64 at_, .int .u64 old, .int .u64 new, .bool done, .bool true] 120)
        rw [← hw1] at hb1 HP ⊢
        refine (refPeek_calls at_ (HM.out.bw hb1)).mono ?_
        rintro e w5 ⟨rfl, hb5⟩
        rw [← HX.out]
        have HP5 := HP.out.bw hb5
        have c0 : w5.cell? ⟨w.heap.size, 0, none⟩ = some v := HP5.cell 0 _ rfl
        have c3 : w5.cell? ⟨w.heap.size, 3, none⟩ = some (.int .i64 kind) := HP5.cell 3 _ rfl
        have c5 : w5.cell? ⟨w.heap.size, 5, none⟩ = some (.int .i64 at_) := HP5.cell 5 _ rfl
        have c6 : w5.cell? ⟨w.heap.size, 6, none⟩ = some (.int .u64 old) := HP5.cell 6 _ rfl
        have c7 : w5.cell? ⟨w.heap.size, 7, none⟩ = some (.int .u64 new) := HP5.cell 7 _ rfl
        have hb1 := hb1.trans hb5
        clear hb5 HP5 hw1
        have HW1 := Aside0.mk hb1
        have HM1 := Aside0.mk (HM.out.bw hb1)
        have HO1 := Aside0.mk (pw_own_below HO.out hb1)
        go_wp2_with fail
        refine (HDo.out _ HM1.out).mono ?_
        rintro e w2 ⟨rfl, hm2, hc2⟩
        have HM2 := Aside0.mk hm2
        have HO2 := Aside0.mk (own_of_block HO1.out (fun j hj => hc2.block j (own_lt HO1.out j hj) (fun e => HD.out j e hj)))
        have HC2 := Aside0.mk ((Chg.of_bw HW1.out : Chg (MemF b vm) w _).trans hc2)
        clear hm2 hc2
        go_wp2_with (at_builtin; go_loud (refine print_append_num (w0 := w2) gb rfl (.tmp 31) (.tmp 47) 41 55 .u64 8 rfl Try.underlying41 infoU (by omega) v got y rfl rfl HO2.out (Below.refl _ _) (Nat.le_trans hgb HC2.out.size) (by omega) ?_); intro u w3 hown hbel hg hat)
        go_ret
        rw [HF.out]
        refine ⟨u, rfl, HM2.out.chg (Chg.of_grown hg) (fun i hi hj => HD.out i hi hj), hown, (HC2.out.mono fun i hi => .inl hi).trans ((Chg.of_grown hg).mono fun i hi => .inr hi), ?_⟩
        rcases hat with e | ⟨k, e, hk⟩
        · exact .inl e
        · exact .inr ⟨k, e, Nat.le_trans HC2.out.size hk⟩
    · have HF := Aside0.mk (show F = (m, got) by
        rw [hF]; unfold turnS; rw [if_neg (by simp), if_pos (by simp only; rw [← hx, hs])])
      obtain ⟨rfl, e1⟩ : sleep = true ∧ (x == 0) = true := by simpa using hs
      clear hF hm ho hl hd hok hr hk hx hs
      go_enter Try.func71, Try.ntmps71
      go_wp2_with fail
      have hb1 := HB.out.alloc (.cells #[v, .int .i64 used, .bool true, .int .i64 kind, .int .i64 who', .int .i64 at_, .int .u64 old, .int .u64 new, .bool done, .bool true] 120)
      obtain ⟨w1, hw1⟩ : ∃ w1, w1 = w.alloc (.cells #[v, .int .i64 used, .bool true, .int .i64 kind, .int .i64 who', .int .i64 at_, .int .u64 old, .int .u64 new, .bool done, .bool true] 120) := ⟨_, rfl⟩
      have HP := Aside0.mk (Blk.new w #[v, .int .i64 used, .bool true, .int .i64 kind, .int .i64 who', .int .i64 at_, .int .u64 old, .int .u64 new, .bool done, .bool true] 120)
      rw [← hw1] at hb1 HP ⊢
      refine (refPeek_calls at_ (HM.out.bw hb1)).mono ?_
      rintro e w5 ⟨rfl, hb5⟩
      rw [← HX.out]
      have HP5 := HP.out.bw hb5
      have c0 : w5.cell? ⟨w.heap.size, 0, none⟩ = some v := HP5.cell 0 _ rfl
      have c3 : w5.cell? ⟨w.heap.size, 3, none⟩ = some (.int .i64 kind) := HP5.cell 3 _ rfl
      have c5 : w5.cell? ⟨w.heap.size, 5, none⟩ = some (.int .i64 at_) := HP5.cell 5 _ rfl
      have c6 : w5.cell? ⟨w.heap.size, 6, none⟩ = some (.int .u64 old) := HP5.cell 6 _ rfl
      have c7 : w5.cell? ⟨w.heap.size, 7, none⟩ = some (.int .u64 new) := HP5.cell 7 _ rfl
      have hb1 := hb1.trans hb5
      clear hb5 HP5 hw1
      go_wp2_with fail
      go_ret
      rw [HF.out]
      exact ⟨v, rfl, HM.out.bw hb1, pw_own_below HO.out hb1, Chg.of_bw hb1, .inl rfl⟩
end
end Go.Proofs.Ytclippikdfcgkaa.M
