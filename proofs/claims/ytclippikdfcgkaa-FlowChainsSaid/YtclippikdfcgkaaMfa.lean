/- The document's routine (package turnspitref07): Wait. Condition: no more than 2^18 answers. -/
import Derived.Test.YtclippikdfcgkaaMf9
import Derived.Deep.LoopGhost
namespace Go.Proofs.Ytclippikdfcgkaa.M
open Go.RowKit Go.Proofs.YtclippikdfcgkaaW.PrintWords Go.Proofs.YtclippikdfcgkaaW.PrintLast Go.Proofs.YtclippikdfcgkaaW.PrintMore
set_option linter.unusedVariables false
set_option linter.unusedSimpArgs false
section
variable {w w1 : World} {gb b : Nat} {v : Value} {r : RunS}
def ldA (at_ : Int) : Acc := ⟨1, 0, at_, 0, 0, false⟩
def RunS.waitF (at_ : Int) : Nat → RunS → Bool → RunS × Int
  | 0, r, _ => (r, 0)
  | n + 1, r, first => if (r.do (ldA at_)).1.stop = true then ({ (r.do (ldA at_)).1 with sleep := !first }, 0) else if (r.do (ldA at_)).2 = 0 then RunS.waitF at_ n (r.do (ldA at_)).1 false else r.do (ldA at_)
def RunS.wait (r : RunS) (at_ : Int) : RunS × Int := r.waitF at_ (r.got.length - r.used + 1) true
theorem IsRun.slp (h : IsRun w gb b v r) (x : Bool) : IsRun (w.setCell ⟨b, 9, none⟩ (.bool x)) gb b v { r with sleep := x } ∧ Chg (fun i => i = b) w (w.setCell ⟨b, 9, none⟩ (.bool x)) :=
  ⟨⟨by simpa [runCells] using h.blk.set 9 (.bool x), h.setc 9 _, h.len, h.le⟩, (Chg.refl (fun j => j = b) w).setb (k := b) (i := 9) rfl _⟩
theorem RunS.do_goes (r : RunS) (a : Acc) (hs : (r.do a).1.stop = false) (hr : r.stop = false) : (r.do a).1.got = r.got ∧ (r.do a).1.used = r.used + 1 ∧ r.used < r.got.length := by
  unfold RunS.do at hs ⊢
  rw [if_neg (by simp [hr])] at hs ⊢
  split at hs
  · rename_i h
    rw [if_pos h]
    exact ⟨rfl, rfl, h⟩
  · simp at hs
def Fin7 (F : RunS × Int) (at_ : Int) (g : Nat) (y : Int) (f : Bool) (r' : RunS) : Prop := F = (if y = 0 ∧ r'.stop = false then r'.waitF at_ g f else (r', y)) ∧ (r'.stop = false → g = r'.got.length - r'.used + 1)
theorem RunS.waitF_succ (at_ : Int) (n : Nat) (r : RunS) (f : Bool) : RunS.waitF at_ (n + 1) r f = (if (r.do (ldA at_)).1.stop = true then ({ (r.do (ldA at_)).1 with sleep := !f }, 0) else if (r.do (ldA at_)).2 = 0 then RunS.waitF at_ n (r.do (ldA at_)).1 false else r.do (ldA at_)) := rfl
theorem RunS.do_stops (r : RunS) (a : Acc) (hs : (r.do a).1.stop = true) : (r.do a).2 = 0 := by
  unfold RunS.do at hs ⊢
  split
  · rfl
  · rename_i h
    rw [if_neg h] at hs
    split
    · rename_i h2
      rw [if_pos h2] at hs
      exact absurd hs h
    · rfl
theorem Fin7.next {F : RunS × Int} {at_ : Int} {g : Nat} {f : Bool} {r' : RunS} (h : Fin7 F at_ g 0 f r') (hs : r'.stop = false) (h3 : (r'.do (ldA at_)).1.stop = false) : Fin7 F at_ (g - 1) (r'.do (ldA at_)).2 false (r'.do (ldA at_)).1 := by
  have hg := h.2 hs
  obtain ⟨e1, e2, e3⟩ := RunS.do_goes r' _ h3 hs
  refine ⟨?_, fun _ => by rw [e1, e2]; omega⟩
  rw [h.1, if_pos ⟨rfl, hs⟩]
  obtain ⟨n, rfl⟩ : ∃ n, g = n + 1 := ⟨g - 1, by omega⟩
  rw [RunS.waitF_succ, if_neg (by rw [h3]; decide), Nat.add_sub_cancel]
  by_cases h0 : (r'.do (ldA at_)).2 = 0
  · rw [if_pos h0, if_pos ⟨h0, h3⟩]
  · rw [if_neg h0, if_neg (fun h => h0 h.1)]
theorem Fin7.stops {F : RunS × Int} {at_ : Int} {g : Nat} {f : Bool} {r' : RunS} (h : Fin7 F at_ g 0 f r') (hs : r'.stop = false) (h3 : (r'.do (ldA at_)).1.stop = true) : Fin7 F at_ (g - 1) (r'.do (ldA at_)).2 false { (r'.do (ldA at_)).1 with sleep := !f } := by
  have hg := h.2 hs
  refine ⟨?_, fun h => ?_⟩
  · rw [h.1, if_pos ⟨rfl, hs⟩]
    obtain ⟨n, rfl⟩ : ∃ n, g = n + 1 := ⟨g - 1, by omega⟩
    rw [RunS.waitF_succ, if_pos h3, if_neg (fun h => by have := h.2; simp only [h3] at this; cases this), RunS.do_stops _ _ h3]
  · simp only [h3] at h; cases h
theorem Fin7.stopped {F : RunS × Int} {at_ : Int} {g : Nat} {f : Bool} {r' : RunS} (h : Fin7 F at_ g 0 f r') (hs : r'.stop = true) : F = (r', 0) := by
  rw [h.1, if_neg (fun h => by rw [hs] at h; cases h.2)]
theorem Fin7.got {F : RunS × Int} {at_ : Int} {g : Nat} {f : Bool} {y : Int} {r' : RunS} (h : Fin7 F at_ g y f r') (hy : y ≠ 0) : F = (r', y) := by
  rw [h.1, if_neg (fun h => hy h.1)]
set_option maxHeartbeats 1000000 in
theorem Wait_calls (at_ : Int) (h : IsRun w gb b v r) (hs : r.stop = false) :
    Calls Try.prog 115 #[.pointer (some ⟨b, 0, none⟩), .int .i64 at_] w (RunPost w gb b v (r.wait at_).1 (.int .u64 (r.wait at_).2)) := by
  have H := Aside0.mk h
  have HS := Aside0.mk hs
  obtain ⟨F, hF⟩ : ∃ F, F = r.wait at_ := ⟨_, rfl⟩
  rw [← hF]
  have HF := Aside0.mk (show Fin7 F at_ (r.got.length - r.used + 1) 0 true r from ⟨by rw [hF, if_pos ⟨rfl, hs⟩]; rfl, fun _ => rfl⟩)
  clear h hs hF
  go_enter Try.func115, Try.ntmps115
  go_wp2_with fail
  go_loopg [5, 6] (r.got.length - r.used + 1) (fun g s5 s6 wr => ∃ (y : Int) (f : Bool) (r' : RunS), s5 = .int .u64 y ∧ s6 = .bool f ∧ Aside0 (IsRun wr gb b v r') ∧ Aside0 (Chg (fun i => i = b) w wr) ∧ Aside0 (Fin7 F at_ g y f r'))
  case atStart => exact ⟨0, true, r, rfl, rfl, H, ⟨Chg.refl _ _⟩, HF⟩
  case round =>
    obtain ⟨y, f, r', rfl, rfl, HR, HC, HFk⟩ := hrel
    have hlt := HR.out.blk.lt
    by_cases hy : y = 0
    · subst hy
      cases hst : r'.stop
      · have k2 : wr.cell? ⟨b, 2, none⟩ = some (.bool false) := by rw [← hst]; exact HR.out.blk.cell 2 _ rfl
        have HST := Aside0.mk hst
        clear hst
        go_wp2_with fail
        refine (rLoad_calls at_ HR.out).mono ?_
        rintro e w3 ⟨rfl, hr3, hc3⟩
        have hle : 1 ≤ gk := by have := HFk.out.2 HST.out; omega
        have HR3 := Aside0.mk hr3
        have HC3 := Aside0.mk (HC.out.trans hc3)
        have hlt3 := HR3.out.blk.lt
        clear hr3 hc3 k2
        cases hst3 : (r'.do ⟨1, 0, at_, 0, 0, false⟩).1.stop
        · have k2 : w3.cell? ⟨b, 2, none⟩ = some (.bool false) := by rw [← hst3]; exact HR3.out.blk.cell 2 _ rfl
          have HST3 := Aside0.mk hst3
          clear hst3
          go_wp2_with fail
          go_roundg (gk - 1)
          case measure => omega
          case rel =>
            exact ⟨_, _, _, rfl, rfl, HR3, HC3, ⟨HFk.out.next HST.out HST3.out⟩⟩
        · have k2 : w3.cell? ⟨b, 2, none⟩ = some (.bool true) := by rw [← hst3]; exact HR3.out.blk.cell 2 _ rfl
          have k9 : w3.cell? ⟨b, 9, none⟩ = some (.bool (r'.do ⟨1, 0, at_, 0, 0, false⟩).1.sleep) := HR3.out.blk.cell 9 _ rfl
          have f9 := HR3.out.blk.free 9
          have HST3 := Aside0.mk hst3
          clear hst3
          go_wp2_with fail
          go_roundg (gk - 1)
          case measure => omega
          case rel =>
            obtain ⟨hx, hcx⟩ := HR3.out.slp (!f)
            exact ⟨_, _, _, rfl, rfl, ⟨hx⟩, ⟨HC3.out.trans hcx⟩, ⟨HFk.out.stops HST.out HST3.out⟩⟩
      · have k2 : wr.cell? ⟨b, 2, none⟩ = some (.bool true) := by rw [← hst]; exact HR.out.blk.cell 2 _ rfl
        have HST := Aside0.mk hst
        clear hst
        go_wp2_with fail
        go_ret
        rw [HFk.out.stopped HST.out]
        exact ⟨rfl, HR.out, HC.out⟩
    · have d1 : (y == 0) = false := by simpa using hy
      go_wp2_with fail
      go_ret
      rw [HFk.out.got hy]
      exact ⟨rfl, HR.out, HC.out⟩
end
end Go.Proofs.Ytclippikdfcgkaa.M
