/- The example of package fair holds; the bound. No condition. -/
import Derived.Test.YtkmfbafgbaapiaaMq8
namespace Go.Proofs.Ytkmfbafgbaapiaa.M
open Go.RowKit Go.Maps Go.Proofs.YtkmfbafgbaapiaaW.PrintWords Go.Proofs.YtkmfbafgbaapiaaW.PrintLast Go.Proofs.YtkmfbafgbaapiaaW.PrintMore
set_option linter.unusedVariables false
set_option linter.unusedSimpArgs false
set_option maxRecDepth 100000
theorem own_cellq {w : World} {base g cap n : Nat} {e : TypeId} {sz : Nat} {xs : List Value} (h : w.ownsRow base e sz (.slice (some ⟨g, 0, none⟩) n cap) n xs) (j : Nat) (u : Value) (hj : xs[j]? = some u) : w.cell? ⟨g, j, none⟩ = some u := by
  have := h.cells (g := g) rfl j u hj
  have hadd : (⟨g, 0, none⟩ : Addr).add j = ⟨g, j, none⟩ := by unfold Addr.add; split <;> simp_all
  rw [hadd] at this
  exact this
theorem window_is {p g : Int} {T : Nat} (hr : rightB p T g = true) {A : Option Addr} {cap : Nat} {l : List En} {n x : Nat} (hn : l.length = n) {w : World} (hx : Rows encN 2 w A l) (hl : l.length ≤ 1000000) (hw : ∀ e ∈ l, wfN e) (h : IsWin T l x) :
    Calls Try.prog 32 #[.agg #[.int .i64 p, .int .i64 T, .int .i64 g], .slice A n cap] w fun e w' => e = .returned (.int .i64 (x : Int)) ∧ Bw w w' := by
  subst hn
  refine (fairWindow_calls p g T hr A cap l w hx hl hw).mono ?_
  rintro e w' ⟨y, rfl, hy, hb⟩
  rw [win_unique hy h]
  exact ⟨rfl, hb⟩
theorem right_is {p g : Int} {T : Nat} (hr : rightB p T g = true) {A : Option Addr} {cap : Nat} {l : List En} {n : Nat} {x : Bool} (hn : l.length = n) {w : World} (hx : Rows encN 2 w A l) (hl : l.length ≤ 1000000) (hw : ∀ e ∈ l, wfN e) (h : rightL T l = x) :
    Calls Try.prog 31 #[.agg #[.int .i64 p, .int .i64 T, .int .i64 g], .slice A n cap] w fun e w' => e = .returned (.bool x) ∧ Bw w w' := by
  subst hn
  subst h
  exact fairRight_calls p g T hr A cap l w hx hl hw
theorem Rows.dropN {w : World} {ad : Addr} {l : List En} (h : Rows encN 2 w (some ad) l) (i : Nat) : Rows encN 2 w (some (ad.add (i * 2))) (l.drop i) := by
  have := h.subN i l.length
  unfold sub at this
  rwa [List.take_of_length_le (by rw [List.length_drop]; omega)] at this
theorem rows_one {w : World} {base g n c : Nat} {l : List En} (hn : l.length = n) (h : w.ownsRow base 27 2 (.slice (some ⟨g, 0, none⟩) n c) n (l.flatMap encN)) : Rows encN 2 w (some ⟨g, 0, none⟩) l := by
  obtain ⟨A1, c1', hv, hR⟩ := Rows.own (enc := encN) (sz := 2) (xs := l) (fun _ => rfl) h hn (own_len h)
  injection hv with hv1 _ hv3
  rw [hv1]
  exact hR
theorem len9 : (roundL 2).length = 9 := rfl
theorem len18 : (repL 2 2).length = 18 := by rw [repL_len]
theorem win9 : IsWin 2 (roundL 2) 9 := by
  have := round_win 2 1 (by omega) (by omega) (by omega)
  rwa [repL_one] at this
theorem win18 : IsWin 2 (repL 2 2) 9 := round_win 2 2 (by omega) (by omega) (by omega)
theorem rep22 : repL 2 2 = roundL 2 ++ roundL 2 := by rw [repL_succ, repL_one]
theorem cfg_right : rightB 1 ((2 : Nat) : Int) 1 = true := rfl
theorem aw_win1 {w : World} {g c : Nat} (h : Rows encN 2 w (some ⟨g, 0, none⟩) (roundL 2)) : Calls Try.prog 32 #[.agg #[.int .i64 1, .int .i64 2, .int .i64 1], .slice (some ⟨g, 0, none⟩) 9 c] w fun e w' => e = .returned (.int .i64 9) ∧ Bw w w' :=
  window_is (x := 9) cfg_right len9 h (by rw [len9]; omega) (fun e he => rnd_wf 2 (by omega) e he) win9
theorem aw_win2 {w : World} {g c : Nat} (h : Rows encN 2 w (some ⟨g, 0, none⟩) (repL 2 2)) : Calls Try.prog 32 #[.agg #[.int .i64 1, .int .i64 2, .int .i64 1], .slice (some ⟨g, 0, none⟩) 18 c] w fun e w' => e = .returned (.int .i64 9) ∧ Bw w w' :=
  window_is (x := 9) cfg_right len18 h (by rw [len18]; omega) (fun e he => rep_wf 2 2 (by omega) e he) win18
theorem aw_right1 {w : World} {g c : Nat} (h : Rows encN 2 w (some ⟨g, 0, none⟩) (roundL 2)) : Calls Try.prog 31 #[.agg #[.int .i64 1, .int .i64 2, .int .i64 1], .slice (some ⟨g, 0, none⟩) 9 c] w fun e w' => e = .returned (.bool true) ∧ Bw w w' :=
  right_is cfg_right len9 h (by rw [len9]; omega) (fun e he => rnd_wf 2 (by omega) e he) (round_right 2 (by omega))
theorem tail8 : ((roundL 2).drop 1).length = 8 := rfl
theorem aw_right2 {w : World} {g c : Nat} (h : Rows encN 2 w (some ⟨g, 0, none⟩) (roundL 2)) : Calls Try.prog 31 #[.agg #[.int .i64 1, .int .i64 2, .int .i64 1], .slice (some ⟨g, 2, none⟩) 8 c] w fun e w' => e = .returned (.bool false) ∧ Bw w w' :=
  right_is (l := (roundL 2).drop 1) cfg_right tail8 (by have := h.dropN 1; rw [add_plain] at this; exact this) (by rw [tail8]; omega) (fun e he => rnd_wf 2 (by omega) e (List.mem_of_mem_drop he)) tail_not
set_option maxHeartbeats 2000000 in
theorem qawake_calls (w : World) : Calls Try.prog 29 #[] w fun e w' => e = .returned (.bool true) ∧ Bw w w' := by
  have HR := Aside0.mk (show rightB 1 ((2 : Nat) : Int) 1 = true from rfl)
  have HB := Aside0.mk ((Bw.refl w).alloc (.cells #[.int .i64 1, .int .i64 2, .int .i64 1] 49))
  have HL := Aside0.mk (Blk.new w #[.int .i64 1, .int .i64 2, .int .i64 1] 49)
  go_enter Try.func29, Try.ntmps29
  go_wp2_with fail
  refine (fairRound_calls 1 1 2 HR.out _).mono ?_
  rintro e w1 ⟨v1, rfl, ho1, hb1⟩
  obtain ⟨g1, c1, rfl, _, _⟩ := ho1.form (by rw [roundL_len]; omega)
  have HO1 := Aside0.mk ho1
  have HL1 := Aside0.mk (HL.out.bw hb1)
  have HB1 := Aside0.mk (HB.out.trans hb1)
  have e9 : (roundL 2).length = 9 := rfl
  have k3 := own_cellq ho1 3 (.int .i64 1) rfl
  have k4 := own_cellq ho1 4 (.int .i64 4) rfl
  have k16 := own_cellq ho1 16 (.int .i64 3) rfl
  have p0 : w1.cell? ⟨w.heap.size, 0, none⟩ = some (.int .i64 1) := HL1.out.cell 0 _ rfl
  have p1 : w1.cell? ⟨w.heap.size, 1, none⟩ = some (.int .i64 2) := HL1.out.cell 1 _ rfl
  have p2 : w1.cell? ⟨w.heap.size, 2, none⟩ = some (.int .i64 1) := HL1.out.cell 2 _ rfl
  rw [e9]
  clear ho1 hb1 e9
  go_wp2_with fail
  refine (fairRound_calls 1 1 2 HR.out _).mono ?_
  rintro e w2 ⟨v2, rfl, ho2, hb2⟩
  have HO2 := Aside0.mk ho2
  have HL2 := Aside0.mk (HL1.out.bw hb2)
  have HB2 := Aside0.mk (HB1.out.trans hb2)
  obtain ⟨A1, c1', hv, hR⟩ := Rows.own (enc := encN) (sz := 2) (xs := roundL 2) (fun _ => rfl) (pw_own_below HO1.out hb2) rfl (by rw [roundL_len]; omega)
  injection hv with hv1 _ hv3
  subst hv1
  subst hv3
  have HR1 := Aside0.mk hR
  have HSZ := Aside0.mk (show Bw w1 w2 from hb2)
  clear ho2 hb2 k3 k4 k16 p0 p1 p2 hR
  go_wp2_with (at_builtin; go_loud (refine append_rows encN (w0 := w1) w1.heap.size rfl (.tmp 32) (.tmp 33) 36 27 (.agg #[.int .i64 0, .int .i64 0]) 2 16 rfl Try.underlying36 infoN rfl (by omega) (by omega) v2 (roundL 2).length _ (roundL 2) ⟨g1, 0, none⟩ c1 rfl rfl (fun _ => rfl) (by simp [Value.oneCell']) HO2.out HR1.out HSZ.out HSZ.out.size (by rw [roundL_len]; omega) ?_); intro v3 w3 hown3 hbel3 hg3 hat3)
  have e18 : (roundL 2).length + (roundL 2).length = 18 := rfl
  rw [e18, ← List.flatMap_append, ← rep22] at hown3
  obtain ⟨g3, c3, rfl, _, _⟩ := hown3.form (by omega)
  have HL3 := Aside0.mk (HL1.out.bw hbel3)
  have HB3 := Aside0.mk (HB1.out.trans hbel3)
  have H13 := Aside0.mk (rows_one (n := 9) len9 (pw_own_below HO1.out hbel3))
  have H23 := Aside0.mk (rows_one len18 hown3)
  have q0 : ∀ P : BwW w3, P.W.cell? ⟨w.heap.size, 0, none⟩ = some (.int .i64 1) := fun P => P.cell (HL3.out.cell 0 _ rfl)
  have q1 : ∀ P : BwW w3, P.W.cell? ⟨w.heap.size, 1, none⟩ = some (.int .i64 2) := fun P => P.cell (HL3.out.cell 1 _ rfl)
  have q2 : ∀ P : BwW w3, P.W.cell? ⟨w.heap.size, 2, none⟩ = some (.int .i64 1) := fun P => P.cell (HL3.out.cell 2 _ rfl)
  have hc9 : 9 ≤ c1 := by
    have := HO1.out
    rcases this.2 with ⟨h, _⟩ | ⟨g', cap', cur, h, _, _, h1, _⟩
    · cases h
    · injection h with _ _ h3
      rw [h3]
      exact h1
  clear hown3 hbel3 hg3 hat3 e18 HO2 HR1 HSZ
  refine wp_region_bw (by kernel_rfl) (by kernel_rfl) ?_
  repeat (first | go_big_quiet_skip | (go_big_quiet_want; go_big_quiet_op; first | go_big_quiet_on | go_big_quiet_call (first | (go_at_call 32; first | (with_reducible exact qcall (aw_win1 (H13.out.bw (BwW.h _)))) | (with_reducible exact qcall (aw_win2 (H23.out.bw (BwW.h _))))) | (go_at_call 31; first | (with_reducible exact qcall (aw_right1 (H13.out.bw (BwW.h _)))) | (with_reducible exact qcall (aw_right2 (H13.out.bw (BwW.h _))))))))
  refine wpQuiet_nil ?_
  rintro w4 ⟨⟨_, hb4⟩, rfl⟩
  go_wp2_with fail
  go_ret
  exact ⟨rfl, HB3.out.trans hb4⟩
end Go.Proofs.Ytkmfbafgbaapiaa.M
