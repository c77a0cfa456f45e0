/- The laws FairWindows and FairRounds, walked: they answer true. Conditions: the arguments are of their kinds. -/
import Derived.Test.YtkmfbafgbaapiaaMqa
namespace Go.Proofs.Ytkmfbafgbaapiaa.M
open Go.RowKit Go.Maps Go.Proofs.YtkmfbafgbaapiaaW.PrintWords Go.Proofs.YtkmfbafgbaapiaaW.PrintLast Go.Proofs.YtkmfbafgbaapiaaW.PrintMore
set_option linter.unusedVariables false
set_option linter.unusedSimpArgs false
set_option maxRecDepth 100000
theorem win_exists (T : Nat) (hT : T ≤ 256) (l : List En) : ∃ x, IsWin T l x := by
  cases h : rightL T l
  · exact ⟨0, win_not T hT l h⟩
  · have : ∃ M, IsMax T l (fun _ => True) M := by
      have key : ∀ n : Nat, ∃ M, (∀ p, wfN p → wantB T p = true → min (maxAt (hit l p) l.length) n ≤ M) ∧ (M = 0 ∨ ∃ p, wfN p ∧ wantB T p = true ∧ min (maxAt (hit l p) l.length) n = M) := by
        intro n
        induction n with
        | zero => exact ⟨0, fun _ _ _ => by omega, .inl rfl⟩
        | succ n ih =>
          obtain ⟨M, h1, h2⟩ := ih
          by_cases hc : ∃ p, wfN p ∧ wantB T p = true ∧ n + 1 ≤ maxAt (hit l p) l.length
          · obtain ⟨p, hp, hw, hm⟩ := hc
            exact ⟨n + 1, fun _ _ _ => by omega, .inr ⟨p, hp, hw, by omega⟩⟩
          · have hn : ∀ p, wfN p → wantB T p = true → maxAt (hit l p) l.length ≤ n := fun p hp hw => by
              apply Classical.byContradiction
              intro h'
              exact hc ⟨p, hp, hw, by omega⟩
            refine ⟨M, fun p hp hw => ?_, h2.imp id fun ⟨p, hp, hw, e⟩ => ⟨p, hp, hw, ?_⟩⟩
            · have := h1 p hp hw
              have := hn p hp hw
              omega
            · have := hn p hp hw
              omega
      obtain ⟨M, h1, h2⟩ := key l.length
      refine ⟨M, fun p hp hw _ => ?_, h2.imp id fun ⟨p, hp, hw, e⟩ => ⟨p, hp, hw, trivial, ?_⟩⟩
      · have := h1 p hp hw
        have := max_le (hit l p) l.length
        omega
      · have := max_le (hit l p) l.length
        omega
    obtain ⟨M, hM⟩ := this
    exact ⟨M + 1, win_max T hT l h M hM⟩
theorem refWin_is {p g : Int} {T : Nat} (hT : T ≤ 256) {A : Option Addr} {cap : Nat} {l : List En} {x : Nat} {w : World} (hx : Rows encN 2 w A l) (hl : l.length ≤ 1000000) (hcap : l.length ≤ cap) (hcm : cap ≤ 9223372036854775807) (h : IsWin T l x) :
    Calls Try.prog 35 #[.agg #[.int .i64 p, .int .i64 T, .int .i64 g], .slice A l.length cap] w fun e w' => e = .returned (.int .i64 (x : Int)) ∧ Bw w w' := by
  refine (refWindow_calls p g T hT A cap l w hx hl hcap hcm).mono ?_
  rintro e w' ⟨y, rfl, hy, hb⟩
  rw [win_unique hy h]
  exact ⟨rfl, hb⟩
theorem refRight_is {p g : Int} {T : Nat} (hT : T ≤ 256) {A : Option Addr} {cap : Nat} {l : List En} {x : Bool} {w : World} (hx : Rows encN 2 w A l) (hl : l.length ≤ 1000000) (h : rightL T l = x) :
    Calls Try.prog 34 #[.agg #[.int .i64 p, .int .i64 T, .int .i64 g], .slice A l.length cap] w fun e w' => e = .returned (.bool x) ∧ Bw w w' := h ▸ refRight_calls p g T hT A cap l w hx hl
theorem rd_cap' {ks : List FK} {w : World} {a : Option Addr} {len cap : Nat} (h : RdRow ks w a len cap) : len ≤ cap ∧ cap ≤ 9223372036854775807 ∧ (a = none → len = 0 ∧ cap = 0) := by
  rcases h with ⟨_, h1, h2⟩ | ⟨x, rfl, h1, h2, _⟩
  · exact ⟨by omega, by omega, fun _ => ⟨h1, h2⟩⟩
  · refine ⟨h1, ?_, fun h => by cases h⟩
    simpa [maxLen] using h2
theorem right_t {p t g : Int} (h : rightB p t g = true) : 1 ≤ p ∧ p ≤ 64 ∧ p ≤ t ∧ t ≤ 256 := by unfold rightB at h; simp at h; omega
set_option maxHeartbeats 2000000 in
theorem Windows_good (p g : Int) (T : Nat) (hr : rightB p T g = true) (h4 : p ≤ 4) (h8 : T ≤ 8) (A : Option Addr) (cap : Nat) (l : List En) (w : World) (hx : Rows encN 2 w A l) (hl : l.length ≤ 60) (hcap : l.length ≤ cap) (hcm : cap ≤ 9223372036854775807) (hw : ∀ e ∈ l, wfN e) :
    Calls Try.prog 8 #[.agg #[.int .i64 p, .int .i64 T, .int .i64 g], .slice A l.length cap] w fun e w' => e = .returned (.bool true) ∧ Bw w w' := by
  have HR := Aside0.mk hr
  have HB := Aside0.mk ((Bw.refl w).alloc (.cells #[.int .i64 p, .int .i64 T, .int .i64 g] 49))
  have HL := Aside0.mk (Blk.new w #[.int .i64 p, .int .i64 T, .int .i64 g] 49)
  have HX := Aside0.mk hx
  have HW := Aside0.mk hw
  have d1 : decide ((4 : Int) < p) = false := by simp; omega
  have d2 : decide ((8 : Int) < (T : Int)) = false := by simp; omega
  have d3 : decide ((60 : Int) < (l.length : Int)) = false := by simp; omega
  obtain ⟨x, hX⟩ := win_exists T (by omega) l
  obtain ⟨rb, hrb⟩ : ∃ rb, rightL T l = rb := ⟨_, rfl⟩
  have HXW := Aside0.mk hX
  have HRB := Aside0.mk hrb
  have e1 : (rb == rb) = true := by cases rb <;> rfl
  have e2 : ((x : Int) == (x : Int)) = true := by simp
  clear hr hx hw hX hrb
  go_enter Try.func8, Try.ntmps8
  go_wp2_with fail
  refine (refRight5_calls p T g _).mono ?_
  rintro e w1 ⟨rfl, hb1⟩
  rw [HR.out]
  have HL1 := Aside0.mk (HL.out.bw hb1)
  have HB1 := Aside0.mk (HB.out.trans hb1)
  clear hb1
  go_wp2_with fail
  have q0 : ∀ P : BwW w1, P.W.cell? ⟨w.heap.size, 0, none⟩ = some (.int .i64 p) := fun P => P.cell (HL1.out.cell 0 _ rfl)
  have q1 : ∀ P : BwW w1, P.W.cell? ⟨w.heap.size, 1, none⟩ = some (.int .i64 T) := fun P => P.cell (HL1.out.cell 1 _ rfl)
  have q2 : ∀ P : BwW w1, P.W.cell? ⟨w.heap.size, 2, none⟩ = some (.int .i64 g) := fun P => P.cell (HL1.out.cell 2 _ rfl)
  refine wp_region_bw (by kernel_rfl) (by kernel_rfl) ?_
  repeat (first | go_big_quiet_skip | (go_big_quiet_want; go_big_quiet_op; first | go_big_quiet_on | go_big_quiet_call (first | (go_at_call 29; exact qcall (qawake_calls _)) | (go_at_call 31; exact qcall (right_is HR.out rfl ((HX.out.bw HB1.out).bw (BwW.h _)) (by omega) HW.out HRB.out)) | (go_at_call 34; exact qcall (refRight_is (by omega) ((HX.out.bw HB1.out).bw (BwW.h _)) (by omega) HRB.out)) | (go_at_call 32; exact qcall (window_is HR.out rfl ((HX.out.bw HB1.out).bw (BwW.h _)) (by omega) HW.out HXW.out)) | (go_at_call 35; exact qcall (refWin_is (by omega) ((HX.out.bw HB1.out).bw (BwW.h _)) (by omega) hcap hcm HXW.out)))))
  refine wpQuiet_nil ?_
  rintro w2 ⟨⟨_, hb2⟩, rfl⟩
  go_wp2_with fail
  go_ret
  exact ⟨rfl, HB1.out.trans hb2⟩
set_option maxHeartbeats 1000000 in
theorem Windows_not (p t g : Int) (hr : rightB p t g = false) (h4 : p ≤ 4) (h8 : t ≤ 8) (A : Option Addr) (cap : Nat) (l : List En) (w : World) (hl : l.length ≤ 60) :
    Calls Try.prog 8 #[.agg #[.int .i64 p, .int .i64 t, .int .i64 g], .slice A l.length cap] w fun e w' => e = .returned (.bool true) ∧ Bw w w' := by
  have HR := Aside0.mk hr
  have HB := Aside0.mk ((Bw.refl w).alloc (.cells #[.int .i64 p, .int .i64 t, .int .i64 g] 49))
  have HL := Aside0.mk (Blk.new w #[.int .i64 p, .int .i64 t, .int .i64 g] 49)
  have d1 : decide ((4 : Int) < p) = false := by simp; omega
  have d2 : decide ((8 : Int) < t) = false := by simp; omega
  have d3 : decide ((60 : Int) < (l.length : Int)) = false := by simp; omega
  clear hr
  go_enter Try.func8, Try.ntmps8
  go_wp2_with fail
  refine (refRight5_calls p t g _).mono ?_
  rintro e w1 ⟨rfl, hb1⟩
  rw [HR.out]
  have HL1 := Aside0.mk (HL.out.bw hb1)
  have HB1 := Aside0.mk (HB.out.trans hb1)
  clear hb1
  go_wp2_with fail
  refine (qawake_calls _).mono ?_
  rintro e w2 ⟨rfl, hb2⟩
  have HL2 := Aside0.mk (HL1.out.bw hb2)
  have HB2 := Aside0.mk (HB1.out.trans hb2)
  have p0 : w2.cell? ⟨w.heap.size, 0, none⟩ = some (.int .i64 p) := HL2.out.cell 0 _ rfl
  have p1 : w2.cell? ⟨w.heap.size, 1, none⟩ = some (.int .i64 t) := HL2.out.cell 1 _ rfl
  have p2 : w2.cell? ⟨w.heap.size, 2, none⟩ = some (.int .i64 g) := HL2.out.cell 2 _ rfl
  clear hb2
  go_wp2_with fail
  refine (fairRight_not p t g HR.out _ _).mono ?_
  rintro e w3 ⟨rfl, hb3⟩
  have HL3 := Aside0.mk (HL2.out.bw hb3)
  have HB3 := Aside0.mk (HB2.out.trans hb3)
  have p0 : w3.cell? ⟨w.heap.size, 0, none⟩ = some (.int .i64 p) := HL3.out.cell 0 _ rfl
  have p1 : w3.cell? ⟨w.heap.size, 1, none⟩ = some (.int .i64 t) := HL3.out.cell 1 _ rfl
  have p2 : w3.cell? ⟨w.heap.size, 2, none⟩ = some (.int .i64 g) := HL3.out.cell 2 _ rfl
  clear hb3
  go_wp2_with fail
  refine (fairWindow_not p t g HR.out _ _).mono ?_
  rintro e w4 ⟨rfl, hb4⟩
  have HL4 := Aside0.mk (HL3.out.bw hb4)
  have HB4 := Aside0.mk (HB3.out.trans hb4)
  have p0 : w4.cell? ⟨w.heap.size, 0, none⟩ = some (.int .i64 p) := HL4.out.cell 0 _ rfl
  have p1 : w4.cell? ⟨w.heap.size, 1, none⟩ = some (.int .i64 t) := HL4.out.cell 1 _ rfl
  have p2 : w4.cell? ⟨w.heap.size, 2, none⟩ = some (.int .i64 g) := HL4.out.cell 2 _ rfl
  clear hb4
  go_wp2_with fail
  refine (fairRound_not p t g HR.out _).mono ?_
  rintro e w5 ⟨rfl, hb5⟩
  go_wp2_with fail
  go_ret
  exact ⟨rfl, HB4.out.trans hb5⟩
set_option maxHeartbeats 1000000 in
theorem FairWindows_walk (w : World) (cs : List Value) (f : Fits [.int .i64, .int .i64, .int .i64] cs) (a : Option Addr) (len cap : Nat) (h : RdRow [.int .i64, .int .i64] w a len cap) (y : len * 16 ≤ 140737488351232) :
    Calls Try.prog 8 #[.agg cs.toArray, .slice a len cap] w fun e w' => e = .returned (.bool true) ∧ Bw w w' := by
  obtain ⟨c1, c2, c3⟩ := rd_cap' h
  obtain ⟨l, rfl, hx, hw⟩ := rd_pairs h
  obtain ⟨p, _, rfl, _, h1⟩ := f.int
  obtain ⟨t, _, rfl, _, h2⟩ := h1.int
  obtain ⟨g, _, rfl, _, h3⟩ := h2.int
  obtain rfl := h3.nil
  by_cases g4 : p ≤ 4
  · by_cases g8 : t ≤ 8
    · by_cases gl : l.length ≤ 60
      · cases hr : rightB p t g
        · exact Windows_not p t g hr g4 g8 a cap l w gl
        · obtain ⟨T, rfl⟩ := Int.eq_ofNat_of_zero_le (show 0 ≤ t by have := right_t hr; omega)
          exact Windows_good p g T hr g4 (by omega) a cap l w hx gl c1 c2 hw
      · have HB := Aside0.mk ((Bw.refl w).alloc (.cells #[.int .i64 p, .int .i64 t, .int .i64 g] 49))
        have d1 : decide ((4 : Int) < p) = false := by simp; omega
        have d2 : decide ((8 : Int) < t) = false := by simp; omega
        have d3 : decide ((60 : Int) < (l.length : Int)) = true := by simp; omega
        clear h f h1 h2 h3 hx hw c1 c2 c3
        go_enter Try.func8, Try.ntmps8
        go_wp2_with fail
        refine (qawake_calls _).mono ?_
        rintro e w1 ⟨rfl, hb1⟩
        go_wp2_with fail
        go_ret
        exact ⟨rfl, HB.out.trans hb1⟩
    · have HB := Aside0.mk ((Bw.refl w).alloc (.cells #[.int .i64 p, .int .i64 t, .int .i64 g] 49))
      have d1 : decide ((4 : Int) < p) = false := by simp; omega
      have d2 : decide ((8 : Int) < t) = true := by simp; omega
      clear h f h1 h2 h3 hx hw c1 c2 c3
      go_enter Try.func8, Try.ntmps8
      go_wp2_with fail
      refine (qawake_calls _).mono ?_
      rintro e w1 ⟨rfl, hb1⟩
      go_wp2_with fail
      go_ret
      exact ⟨rfl, HB.out.trans hb1⟩
  · have HB := Aside0.mk ((Bw.refl w).alloc (.cells #[.int .i64 p, .int .i64 t, .int .i64 g] 49))
    have d1 : decide ((4 : Int) < p) = true := by simp; omega
    clear h f h1 h2 h3 hx hw c1 c2 c3
    go_enter Try.func8, Try.ntmps8
    go_wp2_with fail
    refine (qawake_calls _).mono ?_
    rintro e w1 ⟨rfl, hb1⟩
    go_wp2_with fail
    go_ret
    exact ⟨rfl, HB.out.trans hb1⟩
end Go.Proofs.Ytkmfbafgbaapiaa.M
