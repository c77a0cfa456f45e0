/- The document's routine (package turnspitref07): do, Load, Store, Swap, Add. Condition: no more than 2^18 answers. -/
import Derived.Test.YtclippikdfcgkaaMf8
namespace Go.Proofs.Ytclippikdfcgkaa.M
open Go.RowKit Go.Proofs.YtclippikdfcgkaaW.PrintWords Go.Proofs.YtclippikdfcgkaaW.PrintLast Go.Proofs.YtclippikdfcgkaaW.PrintMore
set_option linter.unusedVariables false
set_option linter.unusedSimpArgs false
structure RunS where
  got : List Int
  used : Nat
  stop : Bool
  want : Acc
  sleep : Bool
def runCells (v : Value) (r : RunS) : Array Value :=
  #[v, .int .i64 r.used, .bool r.stop, .int .i64 r.want.kind, .int .i64 r.want.who, .int .i64 r.want.at_, .int .u64 r.want.old, .int .u64 r.want.new, .bool r.want.done, .bool r.sleep]
structure IsRun (w : World) (gb b : Nat) (v : Value) (r : RunS) : Prop where
  blk : Blk w b (runCells v r) 120
  own : w.ownsRow gb 55 1 v r.got.length (nums .u64 r.got)
  len : r.got.length ≤ 262144
  le : r.used ≤ r.got.length
section
variable {w w1 : World} {gb b : Nat} {v : Value} {r : RunS}
theorem IsRun.bw (h : IsRun w gb b v r) (hb : Bw w w1) : IsRun w1 gb b v r := ⟨h.blk.bw hb, pw_own_below h.own hb, h.len, h.le⟩
theorem IsRun.ne (h : IsRun w gb b v r) : v.ownBlock ≠ some b := (own_ne h.own h.blk (by decide)).symm
theorem IsRun.setc (h : IsRun w gb b v r) (i : Nat) (x : Value) : (w.setCell ⟨b, i, none⟩ x).ownsRow gb 55 1 v r.got.length (nums .u64 r.got) := by
  have hc : Chg (fun j => j = b) w (w.setCell ⟨b, i, none⟩ x) := (Chg.refl (fun j => j = b) w).setb (k := b) (i := i) rfl x
  exact own_of_block h.own (fun k hk => hc.block k (own_lt h.own k hk) (fun e => h.ne (e ▸ hk)))
theorem IsRun.next (h : IsRun w gb b v r) (hu : r.used < r.got.length) : IsRun (w.setCell ⟨b, 1, none⟩ (.int .i64 ((r.used : Int) + 1))) gb b v { r with used := r.used + 1 } ∧ Chg (fun i => i = b) w (w.setCell ⟨b, 1, none⟩ (.int .i64 ((r.used : Int) + 1))) :=
  ⟨⟨by simpa [runCells] using h.blk.set 1 (.int .i64 ((r.used : Int) + 1)), h.setc 1 _, h.len, hu⟩, (Chg.refl (fun j => j = b) w).setb (k := b) (i := 1) rfl _⟩
theorem IsRun.stopped (h : IsRun w gb b v r) (a : Acc) : IsRun (((((((w.setCell ⟨b, 2, none⟩ (.bool true)).setCell ⟨b, 3, none⟩ (.int .i64 a.kind)).setCell ⟨b, 4, none⟩ (.int .i64 a.who)).setCell ⟨b, 5, none⟩ (.int .i64 a.at_)).setCell ⟨b, 6, none⟩ (.int .u64 a.old)).setCell ⟨b, 7, none⟩ (.int .u64 a.new)).setCell ⟨b, 8, none⟩ (.bool a.done)) gb b v { r with stop := true, want := a } ∧ Chg (fun i => i = b) w (((((((w.setCell ⟨b, 2, none⟩ (.bool true)).setCell ⟨b, 3, none⟩ (.int .i64 a.kind)).setCell ⟨b, 4, none⟩ (.int .i64 a.who)).setCell ⟨b, 5, none⟩ (.int .i64 a.at_)).setCell ⟨b, 6, none⟩ (.int .u64 a.old)).setCell ⟨b, 7, none⟩ (.int .u64 a.new)).setCell ⟨b, 8, none⟩ (.bool a.done)) := by
  have hc := (((((((Chg.refl (fun j => j = b) w).setb (k := b) (i := 2) rfl (.bool true)).setb (k := b) (i := 3) rfl (.int .i64 a.kind)).setb (k := b) (i := 4) rfl (.int .i64 a.who)).setb (k := b) (i := 5) rfl (.int .i64 a.at_)).setb (k := b) (i := 6) rfl (.int .u64 a.old)).setb (k := b) (i := 7) rfl (.int .u64 a.new)).setb (k := b) (i := 8) rfl (.bool a.done)
  exact ⟨⟨by simpa [runCells] using ((((((h.blk.set 2 (.bool true)).set 3 (.int .i64 a.kind)).set 4 (.int .i64 a.who)).set 5 (.int .i64 a.at_)).set 6 (.int .u64 a.old)).set 7 (.int .u64 a.new)).set 8 (.bool a.done), own_of_block h.own (fun k hk => hc.block k (own_lt h.own k hk) (fun e => h.ne (e ▸ hk))), h.len, h.le⟩, hc⟩
def RunS.do (r : RunS) (a : Acc) : RunS × Int :=
  if r.stop = true then (r, 0) else if r.used < r.got.length then ({ r with used := r.used + 1 }, rd r.got r.used) else ({ r with stop := true, want := a }, 0)
def RunPost (w : World) (gb b : Nat) (v : Value) (r' : RunS) (x : Value) (e : Ending) (w' : World) : Prop := e = .returned x ∧ IsRun w' gb b v r' ∧ Chg (fun i => i = b) w w'
set_option maxHeartbeats 1000000 in
theorem do_calls (a : Acc) (h : IsRun w gb b v r) :
    Calls Try.prog 143 #[.pointer (some ⟨b, 0, none⟩), .agg #[.int .i64 a.kind, .int .i64 a.who, .int .i64 a.at_, .int .u64 a.old, .int .u64 a.new, .bool a.done]] w (RunPost w gb b v (r.do a).1 (.int .u64 (r.do a).2)) := by
  have HB := Aside0.mk (Bw.refl w)
  have H := Aside0.mk h
  cases e1 : r.stop
  · by_cases hu : r.used < r.got.length
    · have HS := Aside0.mk (show r.do a = ({ r with used := r.used + 1 }, rd r.got r.used) by unfold RunS.do; rw [if_neg (by simp [e1]), if_pos hu])
      have d1 : decide (r.used < r.got.length) = true := by simp; omega
      obtain ⟨A, cap, rfl⟩ := own_slice h.own
      obtain ⟨g, cap', he, _, _⟩ := h.own.form (by omega)
      injection he with e2 e3 e4
      subst e2 e4
      have k0 : w.cell? ⟨b, 0, none⟩ = some (.slice (some ⟨g, 0, none⟩) r.got.length cap) := h.blk.cell 0 _ rfl
      have k1 : w.cell? ⟨b, 1, none⟩ = some (.int .i64 r.used) := h.blk.cell 1 _ rfl
      have k2 : w.cell? ⟨b, 2, none⟩ = some (.bool false) := by rw [← e1]; exact h.blk.cell 2 _ rfl
      have f1 := h.blk.free 1
      have hlt := h.blk.lt
      have hw1 : wrap64 ((r.used : Int) + 1) = (r.used : Int) + 1 := by
        have := h.len
        unfold wrap64
        omega
      have hw2 : wrap64 ((r.used : Int) + 1 - 1) = (r.used : Int) := by
        have := h.len
        unfold wrap64
        omega
      have hw3 : wrap64 (r.used : Int) = (r.used : Int) := by
        have := h.len
        unfold wrap64
        omega
      have hu3 : (r.used : Int) < (r.got.length : Int) := by omega
      have hb1 := HB.out.alloc (.cells #[.int .i64 a.kind, .int .i64 a.who, .int .i64 a.at_, .int .u64 a.old, .int .u64 a.new, .bool a.done] 76)
      clear h e1
      have hu2 : (0 : Int) ≤ r.used := by omega
      go_enter Try.func143, Try.ntmps143
      go_wp2_with fail
      go_region
      go_wp2_with fail
      have HX := Aside0.mk (H.out.next hu)
      have hbx := ((Bw.refl (w.setCell ⟨b, 1, none⟩ (.int .i64 ((r.used : Int) + 1)))).alloc (.cells #[.int .i64 a.kind, .int .i64 a.who, .int .i64 a.at_, .int .u64 a.old, .int .u64 a.new, .bool a.done] 76)).drew
      obtain ⟨w2, hw⟩ : ∃ w2, w2 = ((w.setCell ⟨b, 1, none⟩ (.int .i64 ((r.used : Int) + 1))).alloc (.cells #[.int .i64 a.kind, .int .i64 a.who, .int .i64 a.at_, .int .u64 a.old, .int .u64 a.new, .bool a.done] 76)).drew := ⟨_, rfl⟩
      rw [← hw] at hbx ⊢
      have H2 := Aside0.mk (HX.out.1.bw hbx)
      have HC2 := Aside0.mk (HX.out.2.trans (Chg.of_bw hbx))
      have k0 : w2.cell? ⟨b, 0, none⟩ = some (.slice (some ⟨g, 0, none⟩) r.got.length cap) := H2.out.blk.cell 0 _ rfl
      have k1 : w2.cell? ⟨b, 1, none⟩ = some (.int .i64 ((r.used : Int) + 1)) := H2.out.blk.cell 1 _ rfl
      have x0 : w2.cell? ⟨g, r.used, none⟩ = some (.int .u64 (rd r.got r.used)) := by simpa using (own_at H2.out.own (r.used : Int) (by omega) (by omega)).1
      have hlt := H2.out.blk.lt
      clear hw hbx hb1
      go_region
      go_wp2_with fail
      go_ret
      rw [HS.out]
      exact ⟨rfl, H2.out.bw (Bw.refl w2).drew, HC2.out.trans (Chg.of_bw (Bw.refl w2).drew)⟩
    · have HS := Aside0.mk (show r.do a = ({ r with stop := true, want := a }, 0) by unfold RunS.do; rw [if_neg (by simp [e1]), if_neg hu])
      have d1 : decide (r.used < r.got.length) = false := by simp; omega
      obtain ⟨A, cap, rfl⟩ := own_slice h.own
      have k0 : w.cell? ⟨b, 0, none⟩ = some (.slice A r.got.length cap) := h.blk.cell 0 _ rfl
      have k1 : w.cell? ⟨b, 1, none⟩ = some (.int .i64 r.used) := h.blk.cell 1 _ rfl
      have k2 : w.cell? ⟨b, 2, none⟩ = some (.bool false) := by rw [← e1]; exact h.blk.cell 2 _ rfl
      have f2 := h.blk.free 2
      have f3 := h.blk.free 3
      have f4 := h.blk.free 4
      have f5 := h.blk.free 5
      have f6 := h.blk.free 6
      have f7 := h.blk.free 7
      have f8 := h.blk.free 8
      have k3 : w.cell? ⟨b, 3, none⟩ = some (.int .i64 r.want.kind) := h.blk.cell 3 _ rfl
      have k4 : w.cell? ⟨b, 4, none⟩ = some (.int .i64 r.want.who) := h.blk.cell 4 _ rfl
      have k5 : w.cell? ⟨b, 5, none⟩ = some (.int .i64 r.want.at_) := h.blk.cell 5 _ rfl
      have k6 : w.cell? ⟨b, 6, none⟩ = some (.int .u64 r.want.old) := h.blk.cell 6 _ rfl
      have k7 : w.cell? ⟨b, 7, none⟩ = some (.int .u64 r.want.new) := h.blk.cell 7 _ rfl
      have k8 : w.cell? ⟨b, 8, none⟩ = some (.bool r.want.done) := h.blk.cell 8 _ rfl
      have hlt := h.blk.lt
      have hb1 := HB.out.alloc (.cells #[.int .i64 a.kind, .int .i64 a.who, .int .i64 a.at_, .int .u64 a.old, .int .u64 a.new, .bool a.done] 76)
      clear h hu e1
      go_enter Try.func143, Try.ntmps143
      go_wp2_with fail
      go_region
      go_wp2_with fail
      have HX := Aside0.mk (H.out.stopped a)
      have hbx := ((Bw.refl ((((((((w.setCell ⟨b, 2, none⟩ (.bool true)).setCell ⟨b, 3, none⟩ (.int .i64 a.kind)).setCell ⟨b, 4, none⟩ (.int .i64 a.who)).setCell ⟨b, 5, none⟩ (.int .i64 a.at_)).setCell ⟨b, 6, none⟩ (.int .u64 a.old)).setCell ⟨b, 7, none⟩ (.int .u64 a.new)).setCell ⟨b, 8, none⟩ (.bool a.done)))).alloc (.cells #[.int .i64 a.kind, .int .i64 a.who, .int .i64 a.at_, .int .u64 a.old, .int .u64 a.new, .bool a.done] 76)).drew
      go_ret
      rw [HS.out]
      exact ⟨rfl, HX.out.1.bw hbx, HX.out.2.trans (Chg.of_bw hbx)⟩
  · have HS := Aside0.mk (show r.do a = (r, 0) by unfold RunS.do; rw [if_pos e1])
    have k2 : w.cell? ⟨b, 2, none⟩ = some (.bool true) := by rw [← e1]; exact h.blk.cell 2 _ rfl
    have hlt := h.blk.lt
    clear h e1
    go_enter Try.func143, Try.ntmps143
    go_wp2_with fail
    go_ret
    rw [HS.out]
    have hb := HB.out.alloc (.cells #[.int .i64 a.kind, .int .i64 a.who, .int .i64 a.at_, .int .u64 a.old, .int .u64 a.new, .bool a.done] 76)
    exact ⟨rfl, H.out.bw hb, Chg.of_bw hb⟩
set_option maxHeartbeats 1000000 in
theorem rLoad_calls (a : Int) (h : IsRun w gb b v r) :
    Calls Try.prog 116 #[.pointer (some ⟨b, 0, none⟩), .int .i64 a] w (RunPost w gb b v (r.do ⟨1, 0, a, 0, 0, false⟩).1 (.int .u64 (r.do ⟨1, 0, a, 0, 0, false⟩).2)) := by
  have HD := Aside0.mk (do_calls ⟨1, 0, a, 0, 0, false⟩ h)
  clear h
  go_enter Try.func116, Try.ntmps116
  go_wp2_with fail
  refine (HD.out).mono ?_
  rintro e w1 ⟨rfl, hp⟩
  have HP := Aside0.mk hp
  clear hp
  go_wp2_with fail
  go_ret
  exact ⟨rfl, HP.out⟩
set_option maxHeartbeats 1000000 in
theorem rStore_calls (a x : Int) (h : IsRun w gb b v r) :
    Calls Try.prog 117 #[.pointer (some ⟨b, 0, none⟩), .int .i64 a, .int .u64 x] w (RunPost w gb b v (r.do ⟨2, 0, a, 0, x, false⟩).1 (.tuple #[])) := by
  have HD := Aside0.mk (do_calls ⟨2, 0, a, 0, x, false⟩ h)
  clear h
  go_enter Try.func117, Try.ntmps117
  go_wp2_with fail
  refine (HD.out).mono ?_
  rintro e w1 ⟨rfl, hp⟩
  have HP := Aside0.mk hp
  clear hp
  go_wp2_with fail
  go_end0
  exact ⟨rfl, HP.out⟩
set_option maxHeartbeats 1000000 in
theorem rSwap_calls (a o x : Int) (h : IsRun w gb b v r) :
    Calls Try.prog 118 #[.pointer (some ⟨b, 0, none⟩), .int .i64 a, .int .u64 o, .int .u64 x] w (RunPost w gb b v (r.do ⟨3, 0, a, o, x, false⟩).1 (.bool ((r.do ⟨3, 0, a, o, x, false⟩).2 == 1))) := by
  have HD := Aside0.mk (do_calls ⟨3, 0, a, o, x, false⟩ h)
  clear h
  go_enter Try.func118, Try.ntmps118
  go_wp2_with fail
  refine (HD.out).mono ?_
  rintro e w1 ⟨rfl, hp⟩
  have HP := Aside0.mk hp
  clear hp
  go_wp2_with fail
  go_ret
  exact ⟨rfl, HP.out⟩
set_option maxHeartbeats 1000000 in
theorem rAdd_calls (a x : Int) (h : IsRun w gb b v r) :
    Calls Try.prog 119 #[.pointer (some ⟨b, 0, none⟩), .int .i64 a, .int .u64 x] w (RunPost w gb b v (r.do ⟨4, 0, a, 0, x, false⟩).1 (.int .u64 (r.do ⟨4, 0, a, 0, x, false⟩).2)) := by
  have HD := Aside0.mk (do_calls ⟨4, 0, a, 0, x, false⟩ h)
  clear h
  go_enter Try.func119, Try.ntmps119
  go_wp2_with fail
  refine (HD.out).mono ?_
  rintro e w1 ⟨rfl, hp⟩
  have HP := Aside0.mk hp
  clear hp
  go_wp2_with fail
  go_ret
  exact ⟨rfl, HP.out⟩
end
end Go.Proofs.Ytclippikdfcgkaa.M
